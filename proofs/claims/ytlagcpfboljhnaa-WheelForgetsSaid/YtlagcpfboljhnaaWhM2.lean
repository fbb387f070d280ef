import Derived.Test.YtlagcpfboljhnaaWhM1
namespace Go.Proofs.Ytlagcpfboljhnaa.L
open Go Go.Lift
set_option linter.unusedVariables false
set_option linter.unusedSimpArgs false
/-! ### The rings -/
abbrev RG : Type := List (List (Option (List Int)))
abbrev row0 : List (Option (List Int)) := List.replicate 64 (some [])
def cellR (R : RG) (l d : Nat) : Option (List Int) := (R.getD l row0).getD d (some [])
def ringAt (R : RG) (l d : Nat) : List Int := (cellR R l d).getD []
def setR (R : RG) (l d : Nat) (o : Option (List Int)) : RG := R.set l ((R.getD l row0).set d o)
structure Shp (R : RG) : Prop where
  len : R.length = 7
  row : ∀ l, l < 7 → (R.getD l row0).length = 64
  ful : ∀ l d, l < 7 → d < 64 → (cellR R l d).isSome = true
theorem getD_set {α : Type} (l : List α) (i j : Nat) (x d : α) (hi : i < l.length) : (l.set i x).getD j d = if j = i then x else l.getD j d := by
  rw [List.getD_eq_getElem?_getD, List.getD_eq_getElem?_getD, List.getElem?_set]
  by_cases h : i = j
  · subst h; simp [hi]
  · rw [if_neg h, if_neg (fun e => h e.symm)]
theorem setR_row {R : RG} {l d : Nat} {o : Option (List Int)} (hl : l < R.length) (l' : Nat) : (setR R l d o).getD l' row0 = if l' = l then (R.getD l row0).set d o else R.getD l' row0 := getD_set _ _ _ _ _ hl
theorem setR_cell {R : RG} (h : Shp R) {l d : Nat} (hl : l < 7) (hd : d < 64) (o : Option (List Int)) (l' d' : Nat) : cellR (setR R l d o) l' d' = if l' = l ∧ d' = d then o else cellR R l' d' := by
  unfold cellR
  rw [setR_row (by rw [h.len]; exact hl)]
  by_cases e1 : l' = l
  · subst e1
    rw [if_pos rfl, getD_set _ _ _ _ _ (by rw [h.row _ hl]; exact hd)]
    simp
  · rw [if_neg e1, if_neg (fun e => e1 e.1)]
theorem Shp.set {R : RG} (h : Shp R) {l d : Nat} (hl : l < 7) (hd : d < 64) (v : List Int) : Shp (setR R l d (some v)) := by
  refine ⟨by unfold setR; rw [List.length_set]; exact h.len, fun l' hl' => ?_, fun l' d' hl' hd' => ?_⟩
  · rw [setR_row (by rw [h.len]; exact hl)]
    split
    · rw [List.length_set]; exact h.row l hl
    · exact h.row l' hl'
  · rw [setR_cell h hl hd]
    split
    · rfl
    · exact h.ful l' d' hl' hd'
theorem ring_set {R : RG} (h : Shp R) {l d : Nat} (hl : l < 7) (hd : d < 64) (v : List Int) (l' d' : Nat) : ringAt (setR R l d (some v)) l' d' = if l' = l ∧ d' = d then v else ringAt R l' d' := by
  unfold ringAt
  rw [setR_cell h hl hd]
  split <;> rfl
/-- Taken out and put back. -/
theorem set_set {R : RG} (h : Shp R) {l d : Nat} (hl : l < 7) (o o' : Option (List Int)) : (R.set l ((R.getD l row0).set d o)).set l (((R.set l ((R.getD l row0).set d o)).getD l row0).set d o') = setR R l d o' := by
  rw [getD_set _ _ _ _ _ (by rw [h.len]; exact hl), if_pos rfl, List.set_set, List.set_set]
  rfl
theorem rep_row (l : Nat) (hl : l < 7) : (List.replicate 7 row0).getD l row0 = row0 := by
  rw [List.getD_eq_getElem?_getD, List.getElem?_replicate, if_pos hl]
  rfl
theorem shp0 : Shp (List.replicate 7 row0) := by
  refine ⟨by simp, fun l hl => ?_, fun l d hl hd => ?_⟩
  · rw [List.getD_eq_getElem?_getD, List.getElem?_replicate, if_pos hl]
    simp
  · unfold cellR
    rw [rep_row l hl]
    rw [List.getD_eq_getElem?_getD, List.getElem?_replicate, if_pos hd]
    rfl
theorem ring0 (l d : Nat) (hl : l < 7) (hd : d < 64) : ringAt (List.replicate 7 row0) l d = [] := by
  unfold ringAt cellR
  rw [rep_row l hl]
  rw [List.getD_eq_getElem?_getD, List.getElem?_replicate, if_pos hd]
  rfl

/-! ### The ticks: a map of numbers -/
abbrev KI : Kt := .int .i64
abbrev MP : Type := List (Int × Int)
theorem scEq_iff (a b : Int) : scEq KI a b = true ↔ a = b := by
  show ((a : Int) == b) = true ↔ _
  exact beq_iff_eq
theorem mfind_some {id : Int} : ∀ {m : MP} {q : Nat × Int}, mfind KI KI id m = some q → m[q.1]? = some (id, q.2)
  | [], q, h => by cases h
  | p :: m, q, h => by
    simp only [mfind] at h
    split at h
    · rename_i he
      obtain rfl := Option.some.inj h
      have := (scEq_iff _ _).1 he
      subst this
      rfl
    · obtain ⟨q', h1, rfl⟩ := Option.map_eq_some_iff.1 h
      simpa using mfind_some h1
theorem mfind_none {id : Int} : ∀ {m : MP}, mfind KI KI id m = none → ∀ t, (id, t) ∉ m
  | [], h, t => by simp
  | p :: m, h, t => by
    simp only [mfind] at h
    split at h
    · cases h
    · rename_i he
      have h1 := mfind_none (Option.map_eq_none_iff.1 h) t
      intro hm
      rcases List.mem_cons.1 hm with rfl | hm
      · exact he ((scEq_iff _ _).2 rfl)
      · exact h1 hm
def Keys (m : MP) : Prop := (m.map (·.1)).Nodup
theorem Keys.uniq {m : MP} (h : Keys m) {a t t' : Int} (h1 : (a, t) ∈ m) (h2 : (a, t') ∈ m) : t = t' := by
  unfold Keys at h
  induction m with
  | nil => cases h1
  | cons p m ih =>
    rw [List.map_cons, List.nodup_cons] at h
    rcases List.mem_cons.1 h1 with e1 | g1
    · rcases List.mem_cons.1 h2 with e2 | g2
      · exact (Prod.mk.inj (e1.trans e2.symm)).2
      · exact absurd (List.mem_map.2 ⟨(a, t'), g2, by rw [← e1]⟩) h.1
    · rcases List.mem_cons.1 h2 with e2 | g2
      · exact absurd (List.mem_map.2 ⟨(a, t), g1, by rw [← e2]⟩) h.1
      · exact ih h.2 g1 g2
theorem nodup_ne {α : Type} {l : List α} (h : l.Nodup) {i j : Nat} {x : α} (hi : l[i]? = some x) (hj : l[j]? = some x) : i = j := by
  obtain ⟨h1, h2⟩ := List.getElem?_eq_some_iff.1 hi
  obtain ⟨h3, h4⟩ := List.getElem?_eq_some_iff.1 hj
  have hp := List.pairwise_iff_getElem.1 h
  rcases Nat.lt_trichotomy i j with hl | hl | hl
  · exact absurd (h2.trans h4.symm) (hp i j h1 h3 hl)
  · exact hl
  · exact absurd (h4.trans h2.symm) (hp j i h3 h1 hl)
theorem mget_iff {m : MP} (h : Keys m) {id t : Int} : mget KI KI id (some m) = some t ↔ (id, t) ∈ m := by
  show (mfind KI KI id m).map (·.2) = some t ↔ _
  cases hf : mfind KI KI id m with
  | none => simpa using mfind_none hf t
  | some q =>
    have h1 := List.mem_of_getElem? (mfind_some hf)
    simp only [Option.map_some, Option.some.injEq]
    exact ⟨fun e => e ▸ h1, fun e => h.uniq h1 e⟩
theorem mget_none {m : MP} {id : Int} : mget KI KI id (some m) = none ↔ ∀ t, (id, t) ∉ m := by
  show (mfind KI KI id m).map (·.2) = none ↔ _
  cases hf : mfind KI KI id m with
  | none => simpa using mfind_none hf
  | some q =>
    have h1 := List.mem_of_getElem? (mfind_some hf)
    simp only [Option.map_some]
    exact ⟨fun e => (by cases e), fun e => absurd h1 (e _)⟩
theorem mput_new {m : MP} {id t : Int} (h : ∀ t, (id, t) ∉ m) : mput KI KI id t m = m ++ [(id, t)] := by
  unfold mput
  cases hf : mfind KI KI id m with
  | none => rfl
  | some q => exact absurd (List.mem_of_getElem? (mfind_some hf)) (h _)
theorem mput_same {m : MP} (hk : Keys m) {id t : Int} (h : (id, t) ∈ m) : mput KI KI id t m = m := by
  unfold mput
  cases hf : mfind KI KI id m with
  | none => exact absurd h (mfind_none hf t)
  | some q =>
    have h1 := mfind_some hf
    have h2 := hk.uniq (List.mem_of_getElem? h1) h
    rw [h2] at h1
    refine List.ext_getElem? fun j => ?_
    rw [List.getElem?_set]
    split
    · rename_i hj
      subst hj
      rw [if_pos (List.getElem?_eq_some_iff.1 h1).1]; exact h1.symm
    · rfl
theorem mdel_mem {m : MP} (hk : Keys m) {id : Int} : Keys (mdel KI KI id m) ∧ ∀ a t, (a, t) ∈ mdel KI KI id m ↔ (a, t) ∈ m ∧ a ≠ id := by
  unfold mdel
  cases hf : mfind KI KI id m with
  | none =>
    refine ⟨hk, fun a t => ⟨fun h => ⟨h, ?_⟩, fun h => h.1⟩⟩
    rintro rfl
    exact mfind_none hf t h
  | some q =>
    have h1 := mfind_some hf
    have hlt := (List.getElem?_eq_some_iff.1 h1).1
    have hsub : (m.eraseIdx q.1).Sublist m := List.eraseIdx_sublist _ _
    refine ⟨(hsub.map _).nodup hk, fun a t => ⟨fun h => ⟨hsub.subset h, ?_⟩, fun ⟨h, hne⟩ => ?_⟩⟩
    · rintro rfl
      obtain ⟨j, hj⟩ := List.mem_iff_getElem?.1 h
      rw [List.getElem?_eraseIdx] at hj
      have hnd : (m.map (·.1)).Nodup := hk
      split at hj
      · rename_i hl
        have e1 : (m.map (·.1))[j]? = some a := by rw [List.getElem?_map, hj]; rfl
        have e2 : (m.map (·.1))[q.1]? = some a := by rw [List.getElem?_map, h1]; rfl
        have := nodup_ne hnd e1 e2
        omega
      · rename_i hl
        have hj1 := (List.getElem?_eq_some_iff.1 hj).1
        have e1 : (m.map (·.1))[j + 1]? = some a := by rw [List.getElem?_map, hj]; rfl
        have e2 : (m.map (·.1))[q.1]? = some a := by rw [List.getElem?_map, h1]; rfl
        have := nodup_ne hnd e1 e2
        omega
    · obtain ⟨j, hj⟩ := List.mem_iff_getElem?.1 h
      refine List.mem_iff_getElem?.2 ?_
      rcases Nat.lt_trichotomy j q.1 with hl | hl | hl
      · exact ⟨j, by rw [List.getElem?_eraseIdx, if_pos hl]; exact hj⟩
      · subst hl
        rw [hj] at h1
        exact absurd (Prod.mk.inj (Option.some.inj h1)).1 hne
      · refine ⟨j - 1, ?_⟩
        rw [List.getElem?_eraseIdx, if_neg (by omega), show j - 1 + 1 = j by omega]
        exact hj
end Go.Proofs.Ytlagcpfboljhnaa.L
