import Derived.Test.YtekgngedamnmaaaGreatDoorAgD
namespace Go.Proofs.YtekgngedamnmaaaGreatDoor.L
open Go Go.Lift
set_option linter.unusedVariables false
set_option linter.unusedSimpArgs false
set_option maxRecDepth 100000

theorem dge0 (i : Nat) : decide ((0 : Int) ≤ (i : Int)) = true := decide_eq_true (by omega)
theorem dlt {i n : Nat} (h : i < n) : decide ((i : Int) < (n : Int)) = true := decide_eq_true (by omega)
theorem dnlt {i n : Nat} (h : n ≤ i) : decide ((i : Int) < (n : Int)) = false := decide_eq_false (by omega)
theorem wr1 {i : Nat} (h : i < 4611686018427387904) : IntKind.wrap .i64 ((i : Int) + 1) = ((i + 1 : Nat) : Int) := by
  simp [IntKind.wrap, IntKind.signed, IntKind.bits]; omega
theorem wrap_id {z : Int} (h1 : -9223372036854775808 ≤ z) (h2 : z ≤ 9223372036854775807) : IntKind.wrap .i64 z = z := by
  simp [IntKind.wrap, IntKind.signed, IntKind.bits]; omega
theorem andT (b : Bool) : (if b = true then b else false) = b := by cases b <;> rfl

/-! ### within -/
def wi (x lo hi : Int) : Bool := decide (x ≥ lo) && decide (x ≤ hi)
theorem wi_iff {x lo hi : Int} : wi x lo hi = true ↔ lo ≤ x ∧ x ≤ hi := by simp [wi]
theorem w173 (k : Nat) (x lo hi : Int) : d173 k (x, (lo, (hi, ()))) = some ((wi x lo hi, ()), ()) := by
  simp only [d173, lt, wi]; cases decide (x ≥ lo) <;> rfl
theorem w97 (k : Nat) (x lo hi : Int) : d97 k (x, (lo, (hi, ()))) = some ((wi x lo hi, ()), ()) := by
  simp only [d97, lt, wi]; cases decide (x ≥ lo) <;> rfl

/-! ### servers -/
abbrev sv0 : SV := ((0 : Int), ((0 : Int), ((0 : Int), ((0 : Int), ()))))
def prio (l : List SV) (i : Nat) : Int := (l.getD i sv0).2.2.2.1
def svB (s : SV) : Bool := wi s.1 1 1048576 && wi s.2.1 1 s.1 && wi s.2.2.1 0 (IntKind.wrap .i64 (s.1 - 1)) && wi s.2.2.2.1 0 255
def okAt (l : List SV) (i : Nat) : Prop := svB (l.getD i sv0) = true ∧ ∀ j, j < i → prio l j ≠ prio l i

theorem sv_loop (k0 : Nat) (K : Unit × Unit → Option ((Option I2 × Unit) × Unit)) (l : List SV) (hl : l.length ≤ 32) : ∀ m i k (seen : List Bool), i + m = l.length → m < k → seen.length = 256 → (∀ p, p < 256 → (seen.getD p false = true ↔ ∃ j, j < i ∧ prio l j = (p : Int))) →
    ((∀ j, i ≤ j → j < l.length → okAt l j) ∧ loopN (d146_L3 k0 K) k ((seen, ()), ((i : Int), (l, ((l.length : Int), ())))) = K ((), ())) ∨
    ((¬ ∀ j, i ≤ j → j < l.length → okAt l j) ∧ ∃ p, loopN (d146_L3 k0 K) k ((seen, ()), ((i : Int), (l, ((l.length : Int), ())))) = some ((some ((101 : Int), (p, ())), ()), ())) := by
  intro m
  induction m with
  | zero =>
    intro i k seen hi hk hs hv
    obtain ⟨k, rfl⟩ : ∃ k', k = k' + 1 := ⟨k - 1, by omega⟩
    exact .inl ⟨fun j h1 h2 => by omega, by simp only [loopN, d146_L3, lt, dnlt (show l.length ≤ i by omega), Bool.false_eq_true, if_false]⟩
  | succ m ih =>
    intro i k seen hi hk hs hv
    obtain ⟨k, rfl⟩ : ∃ k', k = k' + 1 := ⟨k - 1, by omega⟩
    have h1 : i < l.length := by omega
    have hstep : loopN (d146_L3 k0 K) (k + 1) ((seen, ()), ((i : Int), (l, ((l.length : Int), ())))) = d146_L3 k0 K (loopN (d146_L3 k0 K) k) ((seen, ()), ((i : Int), (l, ((l.length : Int), ())))) := rfl
    by_cases hb : svB (l.getD i sv0) = true
    · have hb' := hb
      unfold svB at hb'
      simp only [Bool.and_eq_true] at hb'
      obtain ⟨⟨⟨b1, b2⟩, b3⟩, b4⟩ := hb'
      obtain ⟨q1, q2⟩ := wi_iff.1 b4
      obtain ⟨p, hp⟩ : ∃ p : Nat, (l.getD i sv0).2.2.2.1 = (p : Int) := ⟨_, (Int.toNat_of_nonneg q1).symm⟩
      have hp2 : p < 256 := by omega
      have c1 : (decide ((0 : Int) ≤ (p : Int)) && decide ((p : Int) < ((256 : Nat) : Int))) = true := by simp; omega
      have c2 : decide (p < seen.length) = true := by simp; omega
      have b5 : wi (p : Int) 0 255 = true := hp ▸ b4
      have hw := wr1 (show i < 4611686018427387904 by omega)
      cases hsn : seen.getD p false with
      | true =>
        obtain ⟨j, hj, hjp⟩ := (hv p hp2).1 hsn
        refine .inr ⟨fun h => ?_, ((i + 1 : Nat) : Int), ?_⟩
        · exact (h i (Nat.le_refl _) h1).2 j hj (hjp.trans hp.symm)
        · rw [hstep]
          simp only [d146_L3, lt, shr, dlt h1, dge0, Bool.and_self, if_true, Int.toNat_natCast, w173, Option.bind_some, b1, b2, b3, b5, hp, Bool.not_true, Bool.not_false, Bool.false_eq_true, if_false, dlt hp2, c2, hsn, Bool.or_true, beq_self_eq_true, Bool.and_true, Bool.true_and, hw]
      | false =>
        have hok : okAt l i := ⟨hb, fun j hj he => by
          have := (hv p hp2).2 ⟨j, hj, he.trans hp⟩
          rw [hsn] at this; cases this⟩
        have hv' : ∀ p', p' < 256 → ((seen.set p true).getD p' false = true ↔ ∃ j, j < i + 1 ∧ prio l j = (p' : Int)) := by
          intro p' hp'
          by_cases he : p' = p
          · subst he
            have : (seen.set p' true).getD p' false = true := by simp [List.getD, show p' < seen.length by omega]
            simp only [this, true_iff]
            exact ⟨i, by omega, hp⟩
          · have : (seen.set p true).getD p' false = seen.getD p' false := by
              simp [List.getD, List.getElem?_set, Ne.symm he]
            rw [this, hv p' hp']
            constructor
            · rintro ⟨j, a, b⟩; exact ⟨j, by omega, b⟩
            · rintro ⟨j, a, b⟩
              by_cases hji : j = i
              · subst hji
                have : (p' : Int) = (p : Int) := b.symm.trans hp
                omega
              · exact ⟨j, by omega, b⟩
        have he : loopN (d146_L3 k0 K) (k + 1) ((seen, ()), ((i : Int), (l, ((l.length : Int), ())))) = loopN (d146_L3 k0 K) k ((seen.set p true, ()), (((i + 1 : Nat) : Int), (l, ((l.length : Int), ())))) := by
          rw [hstep]
          simp only [d146_L3, lt, shr, dlt h1, dge0, Bool.and_self, if_true, Int.toNat_natCast, w173, Option.bind_some, b1, b2, b3, b5, hp, Bool.not_true, Bool.not_false, Bool.false_eq_true, if_false, dlt hp2, c2, hsn, Bool.or_true, beq_self_eq_true, Bool.and_true, Bool.true_and, d146_K2, hw]
        rw [he]
        rcases ih (i + 1) k (seen.set p true) (by omega) (by omega) (by simpa using hs) hv' with ⟨g1, g2⟩ | ⟨g1, g2⟩
        · exact .inl ⟨fun j a b => by
            rcases Nat.lt_or_ge i j with h | h
            · exact g1 j h b
            · obtain rfl : j = i := by omega
              exact hok, g2⟩
        · exact .inr ⟨fun h => g1 fun j a b => h j (by omega) b, g2⟩
    · refine .inr ⟨fun h => hb (h i (Nat.le_refl _) h1).1, ((i + 1 : Nat) : Int), ?_⟩
      rw [hstep]
      have hw := wr1 (show i < 4611686018427387904 by omega)
      simp only [d146_L3, lt, shr, dlt h1, dge0, Bool.and_self, if_true, Int.toNat_natCast, w173, Option.bind_some, hw]
      unfold svB at hb
      have key : ∀ b1 b2 b3 b4 : Bool, wi (l.getD i sv0).1 1 1048576 = b1 → wi (l.getD i sv0).2.1 1 (l.getD i sv0).1 = b2 → wi (l.getD i sv0).2.2.1 0 (IntKind.wrap .i64 ((l.getD i sv0).1 - 1)) = b3 → wi (l.getD i sv0).2.2.2.1 0 255 = b4 → (b1 && b2 && b3 && b4) = true → False := by
        intro b1 b2 b3 b4 h1 h2 h3 h4 h
        rw [h1, h2, h3, h4] at hb; exact hb h
      cases h1 : wi (l.getD i sv0).1 1 1048576 <;> cases h2 : wi (l.getD i sv0).2.1 1 (l.getD i sv0).1 <;> cases h3 : wi (l.getD i sv0).2.2.1 0 (IntKind.wrap .i64 ((l.getD i sv0).1 - 1)) <;> cases h4 : wi (l.getD i sv0).2.2.2.1 0 255 <;>
        first
        | (exact (key _ _ _ _ h1 h2 h3 h4 rfl).elim)
        | simp [h1, h2, h3, h4]
/-- Which error servers lead to. -/
def svE (l : List SV) : Int := if l.length ≤ 32 then 101 else 100
theorem svE_ne (l : List SV) : svE l ≠ 0 := by unfold svE; split <;> decide
theorem sv_check (k : Nat) (hk : 40 < k) (l : List SV) : (l.length ≤ 32 ∧ (∀ j, j < l.length → okAt l j) ∧ d146 k (l, ()) = some ((none, ()), ())) ∨ ((¬ (l.length ≤ 32 ∧ ∀ j, j < l.length → okAt l j)) ∧ ∃ e p, e = svE l ∧ d146 k (l, ()) = some ((some (e, (p, ())), ()), ())) := by
  by_cases hl : l.length ≤ 32
  · have d1 : decide ((l.length : Int) > 32) = false := decide_eq_false (by omega)
    rcases sv_loop k d146_K1 l hl l.length 0 k (List.replicate 256 false) (by omega) (by omega) (by simp) (fun p hp => by
      have : (List.replicate 256 false).getD p false = false := by
        rw [List.getD_eq_getElem?_getD, List.getElem?_replicate]; split <;> rfl
      rw [this]
      simp) with ⟨g1, g2⟩ | ⟨g1, p, g2⟩
    · refine .inl ⟨hl, fun j hj => g1 j (Nat.zero_le _) hj, ?_⟩
      simp only [d146, lt, shr, d1, Bool.false_eq_true, if_false]
      exact g2.trans rfl
    · refine .inr ⟨fun h => g1 fun j _ hj => h.2 j hj, 101, p, (if_pos hl).symm, ?_⟩
      simp only [d146, lt, shr, d1, Bool.false_eq_true, if_false]
      exact g2
  · have d1 : decide ((l.length : Int) > 32) = true := decide_eq_true (by omega)
    exact .inr ⟨fun h => hl h.1, 100, 0, (if_neg hl).symm, by simp only [d146, lt, d1, if_true]⟩

/-! ### the document's servers -/
theorem d98_loop (k0 : Nat) (l : List SV) (i : Nat) (hi : i < l.length) (hl : l.length ≤ 32) (K : (SV × Unit) × Unit → Option ((Bool × Unit) × Unit)) (x : Int) : ∀ m j k, j + m = i → m < k →
    ((∀ q, j ≤ q → q < i → prio l q ≠ prio l i) ∧ loopN (d98_L3 K) k ((l.getD i sv0, ()), ((j : Int), (l, ((i : Int), ())))) = K ((l.getD i sv0, ()), ())) ∨
    ((¬ ∀ q, j ≤ q → q < i → prio l q ≠ prio l i) ∧ loopN (d98_L3 K) k ((l.getD i sv0, ()), ((j : Int), (l, ((i : Int), ())))) = some ((false, ()), ())) := by
  intro m
  induction m with
  | zero =>
    intro j k hj hk
    obtain ⟨k, rfl⟩ : ∃ k', k = k' + 1 := ⟨k - 1, by omega⟩
    exact .inl ⟨fun q h1 h2 => by omega, by simp only [loopN, d98_L3, lt, dnlt (show i ≤ j by omega), Bool.false_eq_true, if_false]⟩
  | succ m ih =>
    intro j k hj hk
    obtain ⟨k, rfl⟩ : ∃ k', k = k' + 1 := ⟨k - 1, by omega⟩
    have h1 : j < i := by omega
    have hstep : loopN (d98_L3 K) (k + 1) ((l.getD i sv0, ()), ((j : Int), (l, ((i : Int), ())))) = d98_L3 K (loopN (d98_L3 K) k) ((l.getD i sv0, ()), ((j : Int), (l, ((i : Int), ())))) := rfl
    by_cases hp : prio l j = prio l i
    · refine .inr ⟨fun h => h j (Nat.le_refl _) h1 hp, ?_⟩
      have hb : ((l.getD j sv0).2.2.2.1 == (l.getD i sv0).2.2.2.1) = true := by rw [beq_iff_eq]; exact hp
      rw [hstep]
      simp only [d98_L3, lt, shr, dlt h1, dlt (show j < l.length by omega), dge0, Bool.and_self, if_true, Int.toNat_natCast, hb]
    · have hb : ((l.getD j sv0).2.2.2.1 == (l.getD i sv0).2.2.2.1) = false := by rw [beq_eq_false_iff_ne]; exact hp
      have he : loopN (d98_L3 K) (k + 1) ((l.getD i sv0, ()), ((j : Int), (l, ((i : Int), ())))) = loopN (d98_L3 K) k ((l.getD i sv0, ()), (((j + 1 : Nat) : Int), (l, ((i : Int), ())))) := by
        rw [hstep]
        simp only [d98_L3, lt, shr, dlt h1, dlt (show j < l.length by omega), dge0, Bool.and_self, if_true, Int.toNat_natCast, hb, Bool.false_eq_true, if_false, d98_K2, wr1 (show j < 4611686018427387904 by omega)]
      rw [he]
      rcases ih (j + 1) k (by omega) (by omega) with ⟨g1, g2⟩ | ⟨g1, g2⟩
      · exact .inl ⟨fun q a b => by
          rcases Nat.lt_or_ge j q with h | h
          · exact g1 q h b
          · obtain rfl : q = j := by omega
            exact hp, g2⟩
      · exact .inr ⟨fun h => g1 fun q a b => h q (by omega) b, g2⟩
theorem d98_K1_eq (k : Nat) (s : SV) : d98_K1 k ((s, ()), ()) = some ((svB s, ()), ()) := by
  simp only [d98_K1, lt, w97, Option.bind_some, svB]
  cases h1 : wi s.1 1 1048576 <;> cases h2 : wi s.2.1 1 s.1 <;> cases h3 : wi s.2.2.1 0 (IntKind.wrap .i64 (s.1 - 1)) <;> cases h4 : wi s.2.2.2.1 0 255 <;> simp
theorem d98_eq (k : Nat) (l : List SV) (i : Nat) (hi : i < l.length) (hl : l.length ≤ 32) (hk : i < k) : ∃ b, d98 k (l, ((i : Int), ())) = some ((b, ()), ()) ∧ (b = true ↔ okAt l i) := by
  rcases d98_loop k l i hi hl (d98_K1 k) 0 i 0 k (by omega) hk with ⟨g1, g2⟩ | ⟨g1, g2⟩
  · refine ⟨svB (l.getD i sv0), ?_, fun h => ⟨h, fun j hj => g1 j (Nat.zero_le _) hj⟩, fun h => h.1⟩
    simp only [d98, shr, dlt hi, dge0, Bool.and_self, if_true, Int.toNat_natCast]
    exact g2.trans (d98_K1_eq k _)
  · refine ⟨false, ?_, fun h => Bool.noConfusion h, fun h => (g1 fun q _ hq => h.2 q hq).elim⟩
    simp only [d98, shr, dlt hi, dge0, Bool.and_self, if_true, Int.toNat_natCast]
    exact g2
theorem d46_loop (k0 : Nat) (l : List SV) (hl : l.length ≤ 32) (hk0 : 40 < k0) (K : Unit × Unit → Option ((Int × (Int × Unit)) × Unit)) : ∀ m i k, i + m = l.length → m < k →
    ((∀ j, i ≤ j → j < l.length → okAt l j) ∧ loopN (d46_L3 k0 K) k ((), ((i : Int), (l, ()))) = K ((), ())) ∨
    ((¬ ∀ j, i ≤ j → j < l.length → okAt l j) ∧ ∃ p, loopN (d46_L3 k0 K) k ((), ((i : Int), (l, ()))) = some (((101 : Int), (p, ())), ())) := by
  intro m
  induction m with
  | zero =>
    intro i k hi hk
    obtain ⟨k, rfl⟩ : ∃ k', k = k' + 1 := ⟨k - 1, by omega⟩
    exact .inl ⟨fun j h1 h2 => by omega, by simp only [loopN, d46_L3, lt, dnlt (show l.length ≤ i by omega), Bool.false_eq_true, if_false]⟩
  | succ m ih =>
    intro i k hi hk
    obtain ⟨k, rfl⟩ : ∃ k', k = k' + 1 := ⟨k - 1, by omega⟩
    have h1 : i < l.length := by omega
    have hstep : loopN (d46_L3 k0 K) (k + 1) ((), ((i : Int), (l, ()))) = d46_L3 k0 K (loopN (d46_L3 k0 K) k) ((), ((i : Int), (l, ()))) := rfl
    obtain ⟨b, hb, hbi⟩ := d98_eq k0 l i h1 hl (by omega)
    cases b with
    | false =>
      refine .inr ⟨fun h => Bool.noConfusion (hbi.2 (h i (Nat.le_refl _) h1)), ((i + 1 : Nat) : Int), ?_⟩
      rw [hstep]
      simp only [d46_L3, lt, shr, dlt h1, if_true, hb, Option.bind_some, Bool.not_false, wr1 (show i < 4611686018427387904 by omega)]
    | true =>
      have he : loopN (d46_L3 k0 K) (k + 1) ((), ((i : Int), (l, ()))) = loopN (d46_L3 k0 K) k ((), (((i + 1 : Nat) : Int), (l, ()))) := by
        rw [hstep]
        simp only [d46_L3, lt, shr, dlt h1, if_true, hb, Option.bind_some, Bool.not_true, Bool.false_eq_true, if_false, d46_K2, wr1 (show i < 4611686018427387904 by omega)]
      rw [he]
      rcases ih (i + 1) k (by omega) (by omega) with ⟨g1, g2⟩ | ⟨g1, g2⟩
      · exact .inl ⟨fun j a c => by
          rcases Nat.lt_or_ge i j with h | h
          · exact g1 j h c
          · obtain rfl : j = i := by omega
            exact hbi.1 rfl, g2⟩
      · exact .inr ⟨fun h => g1 fun j a c => h j (by omega) c, g2⟩
theorem sv_ref (k : Nat) (hk : 40 < k) (l : List SV) : ((l.length ≤ 32 ∧ ∀ j, j < l.length → okAt l j) ∧ d46 k (l, ()) = some ((0, (0, ())), ())) ∨ ((¬ (l.length ≤ 32 ∧ ∀ j, j < l.length → okAt l j)) ∧ ∃ e p, e = svE l ∧ d46 k (l, ()) = some ((e, (p, ())), ())) := by
  by_cases hl : l.length ≤ 32
  · have d1 : decide ((l.length : Int) > 32) = false := decide_eq_false (by omega)
    rcases d46_loop k l hl hk d46_K1 l.length 0 k (by omega) (by omega) with ⟨g1, g2⟩ | ⟨g1, p, g2⟩
    · refine .inl ⟨⟨hl, fun j hj => g1 j (Nat.zero_le _) hj⟩, ?_⟩
      simp only [d46, lt, shr, d1, Bool.false_eq_true, if_false]
      exact g2.trans rfl
    · refine .inr ⟨fun h => g1 fun j _ hj => h.2 j hj, 101, p, (if_pos hl).symm, ?_⟩
      simp only [d46, lt, shr, d1, Bool.false_eq_true, if_false]
      exact g2
  · have d1 : decide ((l.length : Int) > 32) = true := decide_eq_true (by omega)
    exact .inr ⟨fun h => hl h.1, 100, 0, (if_neg hl).symm, by simp only [d46, lt, d1, if_true]⟩
end Go.Proofs.YtekgngedamnmaaaGreatDoor.L
