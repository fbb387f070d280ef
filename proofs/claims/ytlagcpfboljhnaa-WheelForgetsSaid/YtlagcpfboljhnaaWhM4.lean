import Derived.Test.YtlagcpfboljhnaaWhM3
namespace Go.Proofs.Ytlagcpfboljhnaa.L
open Go Go.Lift
set_option linter.unusedVariables false
set_option linter.unusedSimpArgs false
structure Inv (n : Int) (m : MP) (R : RG) : Prop where
  inv : InvP m R (fun _ t => some (slot n t))
  now : 0 ≤ n ∧ n ≤ top
  tk : ∀ id t, (id, t) ∈ m → n ≤ t ∧ t < top
theorem InvP.del {m : MP} {R : RG} {pos : Int → Int → Option (Nat × Nat)} (h : InvP m R pos) {id t : Int} (hid : (id, t) ∈ m) {l d : Nat} (hp : pos id t = some (l, d)) (hl : l < 7) (hd : d < 64) :
    InvP (mdel KI KI id m) (setR R l d (some ((ringAt R l d).filter fun y => !(y == id)))) pos := by
  obtain ⟨k1, k2⟩ := mdel_mem h.keys (id := id)
  refine ⟨h.shp.set hl hd _, k1, fun a b hab => h.dom a b ((k2 a b).1 hab).1, fun l' d' hl' hd' => ?_⟩
  rw [ring_set h.shp hl hd]
  obtain ⟨h1, h2⟩ := h.ring l' d' hl' hd'
  have key : ∀ a, (∃ t', (a, t') ∈ mdel KI KI id m ∧ pos a t' = some (l', d')) ↔ a ∈ ringAt R l' d' ∧ a ≠ id := by
    intro a
    rw [h2]
    constructor
    · rintro ⟨t', h3, h4⟩
      obtain ⟨h5, h6⟩ := (k2 a t').1 h3
      exact ⟨⟨t', h5, h4⟩, h6⟩
    · rintro ⟨⟨t', h3, h4⟩, h5⟩
      exact ⟨t', (k2 a t').2 ⟨h3, h5⟩, h4⟩
  by_cases he : l' = l ∧ d' = d
  · rw [if_pos he]
    obtain ⟨rfl, rfl⟩ := he
    refine ⟨h1.filter _, fun a => ?_⟩
    rw [key, List.mem_filter]
    simp
  · rw [if_neg he]
    refine ⟨h1, fun a => ?_⟩
    rw [key]
    refine ⟨fun ha => ⟨ha, fun e => ?_⟩, fun ha => ha.1⟩
    subst e
    obtain ⟨t', h3, h4⟩ := (h2 a).1 ha
    rw [h.keys.uniq h3 hid, hp] at h4
    obtain ⟨e1, e2⟩ := Prod.mk.inj (Option.some.inj h4)
    exact he ⟨e1.symm, e2.symm⟩
theorem InvP.add {m : MP} {R : RG} {pos : Int → Int → Option (Nat × Nat)} (h : InvP m R pos) {id t : Int} (hid : ∀ t, (id, t) ∉ m) (hdom : 0 ≤ id ∧ id ≤ 65535) :
    InvP (m ++ [(id, t)]) R (fun a b => if a = id then none else pos a b) := by
  refine ⟨h.shp, ?_, fun a b hab => ?_, fun l d hl hd => ⟨(h.ring l d hl hd).1, fun a => ?_⟩⟩
  · show ((m ++ [(id, t)]).map (·.1)).Nodup
    rw [List.map_append]
    refine List.nodup_append.2 ⟨h.keys, by simp, fun a ha b hb e => ?_⟩
    obtain ⟨p, hp, rfl⟩ := List.mem_map.1 ha
    have hb : b = id := by simpa using hb
    subst hb
    exact hid p.2 (e ▸ hp)
  · rcases List.mem_append.1 hab with hab | hab
    · exact h.dom a b hab
    · obtain ⟨rfl, _⟩ := Prod.mk.inj (List.mem_singleton.1 hab)
      exact hdom
  · rw [(h.ring l d hl hd).2]
    constructor
    · rintro ⟨t', h1, h2⟩
      refine ⟨t', List.mem_append_left _ h1, ?_⟩
      rw [if_neg (fun e => by subst e; exact hid t' h1)]; exact h2
    · rintro ⟨t', h1, h2⟩
      split at h2
      · cases h2
      · rename_i hne
        rcases List.mem_append.1 h1 with h1 | h1
        · exact ⟨t', h1, h2⟩
        · exact absurd (Prod.mk.inj (List.mem_singleton.1 h1)).1 hne
theorem d28_eq (k : Nat) (l : List Int) (id : Int) (h : id ∈ l) : d28 k (l, ((id, ()), ())) = some ((l.filter fun y => !(y == id), ()), ()) := by
  unfold d28
  have : l.isEmpty = false := by cases l with | nil => cases h | cons a l => rfl
  simp only [this]
  rfl
theorem d17_none (k : Nat) (n id : Int) (m : MP) (R : RG) (h : ∀ t, (id, t) ∉ m) : d17 k (wh n m R, (id, ())) = some ((false, ()), (wh n m R, ())) := by
  have h1 := mget_none.2 h
  unfold d17
  simp only [lt, wh, h1, Option.isSome_none, Bool.not_false, if_true]
theorem d17_eq (k : Nat) (n id t : Int) (m : MP) (R : RG) (hi : Inv n m R) (h : (id, t) ∈ m) :
    ∃ R', d17 k (wh n m R, (id, ())) = some ((true, ()), (wh n (mdel KI KI id m) R', ())) ∧ Inv n (mdel KI KI id m) R' := by
  have hg := (mget_iff hi.inv.keys).2 h
  obtain ⟨tk1, tk2⟩ := hi.tk id t h
  have hS := hi.inv.shp
  obtain ⟨hl, hd⟩ := slot_lt (n := n) (t := t) hi.now.2 (Int.le_of_lt tk2)
  have hmem : id ∈ ringAt R (slot n t).1 (slot n t).2 := ((hi.inv.ring _ _ hl hd).2 id).2 ⟨t, h, rfl⟩
  refine ⟨setR R (slot n t).1 (slot n t).2 (some ((ringAt R (slot n t).1 (slot n t).2).filter fun y => !(y == id))), ?_, hi.inv.del h rfl hl hd, hi.now, fun a b hab => hi.tk a b (((mdel_mem hi.inv.keys).2 a b).1 hab).1⟩
  unfold slot at hl hd hmem ⊢
  simp only [] at hl hd hmem ⊢
  unfold d17
  simp only [lt, wh, hg, Option.isSome_some, Bool.not_true, Bool.false_eq_true, if_false, Option.getD_some]
  generalize lvl n.toNat t.toNat = l at hl hd hmem ⊢
  generalize dig t.toNat l = d at hd hmem ⊢
  have hn := hi.now
  rw [top_eq] at hn tk2
  have c1 : decide (0 ≤ n ∧ n ≤ 1099511627776 ∧ 0 ≤ t ∧ t ≤ 1099511627776) = true := decide_eq_true ⟨hn.1, hn.2, by omega, by omega⟩
  have c2 : decide (l < R.length) = true := decide_eq_true (by rw [hS.len]; exact hl)
  have c3 : decide (d < (R.getD l (List.replicate 64 (some []))).length) = true := decide_eq_true (by rw [hS.row l hl]; exact hd)
  have c4 : ((R.getD l (List.replicate 64 (some []))).getD d (some [])).isSome = true := hS.ful l d hl hd
  have c6 : ∀ o, decide (l < (R.set l ((R.getD l (List.replicate 64 (some []))).set d o)).length) = true := fun o => decide_eq_true (by rw [List.length_set, hS.len]; exact hl)
  have c7 : ∀ o, decide (d < ((R.set l ((R.getD l (List.replicate 64 (some []))).set d o)).getD l (List.replicate 64 (some []))).length) = true := fun o => decide_eq_true (by rw [set_row hS hl]; exact hd)
  have c5 := d28_eq k (ringAt R l d) id hmem
  have c8 : (((R.getD l (List.replicate 64 (some []))).getD d (some [])).getD []) = ringAt R l d := rfl
  simp only [c1, c2, c3, c4, c8, c5, c6, c7, Bool.and_true, if_true, Option.isSome_some, Option.map_some, Option.bind_some]
  have := set_set hS (l := l) (d := d) hl none (some ((ringAt R l d).filter fun y => !(y == id)))
  rw [this]
theorem d15_bad (k : Nat) (n id t : Int) (m : MP) (R : RG) (h : id < 0 ∨ id > 65535 ∨ t < n ∨ t ≥ top) : d15 k (wh n m R, (id, (t, ()))) = some ((2, ()), (wh n m R, ())) := by
  rw [top_eq] at h
  unfold d15
  have : (if (if (if decide (id < 0) = true then true else decide (id > 65535)) = true then true else decide (t < n)) = true then true else decide (t ≥ 1099511627776)) = true := by
    by_cases h1 : id < 0 <;> by_cases h2 : id > 65535 <;> by_cases h3 : t < n <;> by_cases h4 : t ≥ 1099511627776 <;> simp_all
  simp only [lt, wh]
  rw [this, if_pos rfl]
/-- Arm. -/
theorem d15_ok (k : Nat) (n id t : Int) (m : MP) (R : RG) (hi : Inv n m R) (h : 0 ≤ id ∧ id ≤ 65535 ∧ n ≤ t ∧ t < top) :
    ∃ m' R', d15 k (wh n m R, (id, (t, ()))) = some ((0, ()), (wh n m' R', ())) ∧ Inv n m' R' ∧ ∀ a b, (a, b) ∈ m' ↔ ((a, b) ∈ m ∧ a ≠ id) ∨ (a = id ∧ b = t) := by
  obtain ⟨h1, h2, h3, h4⟩ := h
  -- what Cancel leaves
  obtain ⟨bb, m1, R1, e1, hi1, hm1⟩ : ∃ bb m1 R1, d17 k (wh n m R, (id, ())) = some ((bb, ()), (wh n m1 R1, ())) ∧ Inv n m1 R1 ∧ ∀ a b, (a, b) ∈ m1 ↔ (a, b) ∈ m ∧ a ≠ id := by
    by_cases hx : ∃ t', (id, t') ∈ m
    · obtain ⟨t', ht'⟩ := hx
      obtain ⟨R', h5, h6⟩ := d17_eq k n id t' m R hi ht'
      exact ⟨_, _, _, h5, h6, (mdel_mem hi.inv.keys).2⟩
    · have hx : ∀ t', (id, t') ∉ m := fun t' h => hx ⟨t', h⟩
      refine ⟨_, _, _, d17_none k n id m R hx, hi, fun a b => ⟨fun h => ⟨h, ?_⟩, fun h => h.1⟩⟩
      rintro rfl
      exact hx b h
  have hno : ∀ t', (id, t') ∉ m1 := fun t' h => ((hm1 id t').1 h).2 rfl
  obtain ⟨hl, hd⟩ := slot_lt (n := n) (t := t) hi.now.2 (Int.le_of_lt h4)
  have hA := hi1.inv.add (t := t) hno ⟨h1, h2⟩
  have hB := hA.lay (id := id) (t := t) (List.mem_append_right _ (List.mem_singleton_self _)) (if_pos rfl) hl hd
  have e2 := d27_eq k n id t m1 R1 hi.now ⟨by have := hi.now; omega, Int.le_of_lt h4⟩ hi1.inv.shp (Nat.le_trans (hi1.inv.len hl hd) (by omega))
  rw [mput_new hno] at e2
  have hmm : ∀ a b, (a, b) ∈ m1 ++ [(id, t)] ↔ ((a, b) ∈ m ∧ a ≠ id) ∨ (a = id ∧ b = t) := by
    intro a b
    rw [List.mem_append, hm1, List.mem_singleton, Prod.mk.injEq]
  refine ⟨m1 ++ [(id, t)], _, ?_, ⟨hB.congr fun a b hab => ?_, hi.now, fun a b hab => ?_⟩, hmm⟩
  · unfold d15
    rw [top_eq] at h4
    have c : (if (if (if decide (id < 0) = true then true else decide (id > 65535)) = true then true else decide (t < n)) = true then true else decide (t ≥ 1099511627776)) = false := by
      have a1 : ¬ id < 0 := by omega
      have a2 : ¬ id > 65535 := by omega
      have a3 : ¬ t < n := by omega
      have a4 : ¬ t ≥ 1099511627776 := by omega
      simp [a1, a2, a3, a4]
    simp only [lt]
    rw [c]
    simp only [Bool.false_eq_true, if_false]
    rw [e1]
    simp only [Option.bind_some]
    rw [e2]
    rfl
  · by_cases ha : a = id
    · subst ha
      rcases (hmm a b).1 hab with h | h
      · exact absurd rfl h.2
      · simp [h.2]
    · simp [ha]
  · rcases (hmm a b).1 hab with h | h
    · exact hi.tk a b h.1
    · rw [h.2]; exact ⟨h3, h4⟩
end Go.Proofs.Ytlagcpfboljhnaa.L
