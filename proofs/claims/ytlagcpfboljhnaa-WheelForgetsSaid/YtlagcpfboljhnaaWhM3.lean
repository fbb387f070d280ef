import Derived.Test.YtlagcpfboljhnaaWhM2
namespace Go.Proofs.Ytlagcpfboljhnaa.L
open Go Go.Lift
set_option linter.unusedVariables false
set_option linter.unusedSimpArgs false
def top : Int := 1099511627776
theorem top_eq : top = 1099511627776 := rfl
/-- Where a timer lies. -/
def slot (n t : Int) : Nat × Nat := (lvl n.toNat t.toNat, dig t.toNat (lvl n.toNat t.toNat))
theorem slot_lt {n t : Int} (hn : n ≤ top) (ht : t ≤ top) : (slot n t).1 < 7 ∧ (slot n t).2 < 64 := by
  rw [top_eq] at hn ht
  exact ⟨Nat.lt_succ_of_le (lvl_le _ _ (by omega) (by omega)), dig_lt _ _⟩
abbrev wh (n : Int) (m : MP) (R : RG) : WH := (n, (some m, (R, ())))
theorem set_row {R : RG} (hS : Shp R) {l d : Nat} (hl : l < 7) (o : Option (List Int)) : ((R.set l ((R.getD l row0).set d o)).getD l row0).length = 64 := by
  rw [getD_set _ _ _ _ _ (by rw [hS.len]; exact hl), if_pos rfl, List.length_set]
  exact hS.row l hl
theorem d27_eq (k : Nat) (n id t : Int) (m : MP) (R : RG) (hn : 0 ≤ n ∧ n ≤ top) (ht : 0 ≤ t ∧ t ≤ top) (hS : Shp R) (hlen : (ringAt R (slot n t).1 (slot n t).2).length ≤ 100000) :
    d27 k (wh n m R, (id, (t, ()))) = some ((), (wh n (mput KI KI id t m) (setR R (slot n t).1 (slot n t).2 (some (ringAt R (slot n t).1 (slot n t).2 ++ [id]))), ())) := by
  obtain ⟨hl, hd⟩ := slot_lt hn.2 ht.2
  unfold slot at hl hd hlen ⊢
  simp only [] at hl hd hlen ⊢
  unfold d27
  generalize lvl n.toNat t.toNat = l at hl hd hlen ⊢
  generalize dig t.toNat l = d at hd hlen ⊢
  have c1 : decide (0 ≤ n ∧ n ≤ 1099511627776 ∧ 0 ≤ t ∧ t ≤ 1099511627776) = true := decide_eq_true ⟨hn.1, hn.2, ht.1, ht.2⟩
  have c2 : decide (l < R.length) = true := decide_eq_true (by rw [hS.len]; exact hl)
  have c3 : decide (d < (R.getD l (List.replicate 64 (some []))).length) = true := decide_eq_true (by rw [hS.row l hl]; exact hd)
  have c4 : ((R.getD l (List.replicate 64 (some []))).getD d (some [])).isSome = true := hS.ful l d hl hd
  have c6 : ∀ o, decide (l < (R.set l ((R.getD l (List.replicate 64 (some []))).set d o)).length) = true := fun o => decide_eq_true (by rw [List.length_set, hS.len]; exact hl)
  have c7 : ∀ o, decide (d < ((R.set l ((R.getD l (List.replicate 64 (some []))).set d o)).getD l (List.replicate 64 (some []))).length) = true := fun o => decide_eq_true (by rw [set_row hS hl]; exact hd)
  have c5 : appFits (((R.getD l (List.replicate 64 (some []))).getD d (some [])).getD []).length ([id] : List Int).length 8 = true := by
    have h : (((R.getD l (List.replicate 64 (some []))).getD d (some [])).getD []).length ≤ 100000 := hlen
    unfold appFits
    simp only [List.length_singleton, Bool.and_eq_true, decide_eq_true_eq]
    omega
  simp only [lt, wh, c1, c2, c3, c4, c5, c6, c7, Bool.and_true, if_true, Option.isSome_some, Option.map_some]
  have := set_set hS (l := l) (d := d) hl none (some (((R.getD l row0).getD d (some [])).getD [] ++ [id]))
  rw [this]
  rfl
/-! ### How the rings stand to the ticks -/
structure InvP (m : MP) (R : RG) (pos : Int → Int → Option (Nat × Nat)) : Prop where
  shp : Shp R
  keys : Keys m
  dom : ∀ id t, (id, t) ∈ m → 0 ≤ id ∧ id ≤ 65535
  ring : ∀ l d, l < 7 → d < 64 → (ringAt R l d).Nodup ∧ ∀ id, id ∈ ringAt R l d ↔ ∃ t, (id, t) ∈ m ∧ pos id t = some (l, d)
theorem nodup_bound : ∀ (N : Nat) (l : List Int), l.Nodup → (∀ x ∈ l, 0 ≤ x ∧ x < (N : Int)) → l.length ≤ N
  | 0, l, _, h => by
    cases l with
    | nil => exact Nat.le_refl _
    | cons x l => have := h x (List.mem_cons_self ..); omega
  | N + 1, l, hn, h => by
    have h1 := nodup_bound N (l.filter fun x => !(x == (N : Int))) (hn.filter _) (fun x hx => by
      obtain ⟨h2, h3⟩ := List.mem_filter.1 hx
      have := h x h2
      have h3 : x ≠ N := by simpa using h3
      omega)
    have h2 : l.length ≤ (l.filter fun x => !(x == (N : Int))).length + 1 := by
      clear h h1
      induction l with
      | nil => simp
      | cons a l ih =>
        rw [List.nodup_cons] at hn
        by_cases ha : a = (N : Int)
        · subst ha
          have : l.filter (fun x => !(x == (N : Int))) = l := List.filter_eq_self.2 fun x hx => by
            have : x ≠ (N : Int) := fun e => hn.1 (e ▸ hx)
            simpa using this
          simp [this]
        · have := ih hn.2
          simp [ha]; omega
    omega
theorem InvP.len {m : MP} {R : RG} {pos : Int → Int → Option (Nat × Nat)} (h : InvP m R pos) {l d : Nat} (hl : l < 7) (hd : d < 64) : (ringAt R l d).length ≤ 65536 := by
  obtain ⟨h1, h2⟩ := h.ring l d hl hd
  refine nodup_bound 65536 _ h1 fun x hx => ?_
  obtain ⟨t, h3, _⟩ := (h2 x).1 hx
  have := h.dom x t h3
  omega
theorem InvP.mlen {m : MP} {R : RG} {pos : Int → Int → Option (Nat × Nat)} (h : InvP m R pos) : m.length ≤ 65536 := by
  have := nodup_bound 65536 (m.map (·.1)) (show (m.map (·.1)).Nodup from h.keys) fun x hx => by
    obtain ⟨p, h1, rfl⟩ := List.mem_map.1 hx
    have := h.dom p.1 p.2 h1
    omega
  simpa using this
/-- A timer that lay nowhere is laid. -/
theorem InvP.lay {m : MP} {R : RG} {pos : Int → Int → Option (Nat × Nat)} (h : InvP m R pos) {id t : Int} (hid : (id, t) ∈ m) (hp : pos id t = none) {l d : Nat} (hl : l < 7) (hd : d < 64) :
    InvP m (setR R l d (some (ringAt R l d ++ [id]))) (fun a b => if a = id then some (l, d) else pos a b) := by
  have hnot : ∀ l d, l < 7 → d < 64 → id ∉ ringAt R l d := fun l d hl hd hm => by
    obtain ⟨t', h1, h2⟩ := ((h.ring l d hl hd).2 id).1 hm
    rw [h.keys.uniq h1 hid, hp] at h2; cases h2
  refine ⟨h.shp.set hl hd _, h.keys, h.dom, fun l' d' hl' hd' => ?_⟩
  rw [ring_set h.shp hl hd]
  obtain ⟨h1, h2⟩ := h.ring l' d' hl' hd'
  by_cases he : l' = l ∧ d' = d
  · rw [if_pos he]
    obtain ⟨rfl, rfl⟩ := he
    refine ⟨List.nodup_append.2 ⟨h1, by simp, fun a ha b hb e => ?_⟩, fun a => ?_⟩
    · rw [List.mem_singleton.1 hb] at e
      exact hnot _ _ hl' hd' (e ▸ ha)
    · rw [List.mem_append, List.mem_singleton]
      constructor
      · rintro (ha | rfl)
        · obtain ⟨t', h3, h4⟩ := (h2 a).1 ha
          refine ⟨t', h3, ?_⟩
          rw [if_neg (fun e => by subst e; exact hnot _ _ hl' hd' ha)]
          exact h4
        · exact ⟨t, hid, if_pos rfl⟩
      · rintro ⟨t', h3, h4⟩
        by_cases ha : a = id
        · exact .inr ha
        · rw [if_neg ha] at h4
          exact .inl ((h2 a).2 ⟨t', h3, h4⟩)
  · rw [if_neg he]
    refine ⟨h1, fun a => ?_⟩
    rw [h2]
    constructor
    · rintro ⟨t', h3, h4⟩
      refine ⟨t', h3, ?_⟩
      have : a ≠ id := fun e => by
        subst e
        rw [h.keys.uniq h3 hid, hp] at h4; cases h4
      rw [if_neg this]; exact h4
    · rintro ⟨t', h3, h4⟩
      by_cases ha : a = id
      · rw [if_pos ha] at h4
        obtain ⟨e1, e2⟩ := Prod.mk.inj (Option.some.inj h4)
        exact absurd ⟨e1.symm, e2.symm⟩ he
      · rw [if_neg ha] at h4
        exact ⟨t', h3, h4⟩
/-- A ring is emptied: its timers lie nowhere. -/
theorem InvP.take {m : MP} {R : RG} {pos : Int → Int → Option (Nat × Nat)} (h : InvP m R pos) {l d : Nat} (hl : l < 7) (hd : d < 64) :
    InvP m (setR R l d (some [])) (fun a b => if pos a b = some (l, d) then none else pos a b) := by
  refine ⟨h.shp.set hl hd _, h.keys, h.dom, fun l' d' hl' hd' => ?_⟩
  rw [ring_set h.shp hl hd]
  obtain ⟨h1, h2⟩ := h.ring l' d' hl' hd'
  by_cases he : l' = l ∧ d' = d
  · rw [if_pos he]
    obtain ⟨rfl, rfl⟩ := he
    refine ⟨List.nodup_nil, fun a => ⟨(fun h => by cases h), ?_⟩⟩
    rintro ⟨t', h3, h4⟩
    split at h4
    · cases h4
    · contradiction
  · rw [if_neg he]
    refine ⟨h1, fun a => ?_⟩
    rw [h2]
    constructor
    · rintro ⟨t', h3, h4⟩
      refine ⟨t', h3, ?_⟩
      rw [if_neg (fun e => he (by rw [h4] at e; exact Prod.mk.inj (Option.some.inj e)))]
      exact h4
    · rintro ⟨t', h3, h4⟩
      split at h4
      · cases h4
      · exact ⟨t', h3, h4⟩
/-- Other words for where timers lie. -/
theorem InvP.congr {m : MP} {R : RG} {pos pos' : Int → Int → Option (Nat × Nat)} (h : InvP m R pos) (he : ∀ id t, (id, t) ∈ m → pos id t = pos' id t) : InvP m R pos' :=
  ⟨h.shp, h.keys, h.dom, fun l d hl hd => ⟨(h.ring l d hl hd).1, fun id => ((h.ring l d hl hd).2 id).trans ⟨fun ⟨t, h1, h2⟩ => ⟨t, h1, (he _ _ h1).symm.trans h2⟩, fun ⟨t, h1, h2⟩ => ⟨t, h1, (he _ _ h1).trans h2⟩⟩⟩⟩
end Go.Proofs.Ytlagcpfboljhnaa.L
