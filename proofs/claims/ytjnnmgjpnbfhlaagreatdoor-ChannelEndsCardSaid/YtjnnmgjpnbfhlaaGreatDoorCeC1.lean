import Derived.Test.YtjnnmgjpnbfhlaaGreatDoorCeD
namespace Go.Proofs.YtjnnmgjpnbfhlaaGreatDoor.L.C
open Go Go.Lift
set_option linter.unusedVariables false
set_option linter.unusedSimpArgs false
set_option maxRecDepth 100000

theorem dge0 (i : Nat) : decide ((0 : Int) ≤ (i : Int)) = true := decide_eq_true (by omega)
theorem dlt {i n : Nat} (h : i < n) : decide ((i : Int) < (n : Int)) = true := decide_eq_true (by omega)
theorem dnlt {i n : Nat} (h : n ≤ i) : decide ((i : Int) < (n : Int)) = false := decide_eq_false (by omega)
theorem wr1 {i : Nat} (h : i < 4611686018427387904) : IntKind.wrap .i64 ((i : Int) + 1) = ((i + 1 : Nat) : Int) := by
  simp [IntKind.wrap, IntKind.signed, IntKind.bits]; omega
theorem wrap_id {z : Int} (h1 : -9223372036854775808 ≤ z) (h2 : z ≤ 9223372036854775807) : IntKind.wrap .i64 z = z := by
  simp [IntKind.wrap, IntKind.signed, IntKind.bits]; omega
theorem andT (b : Bool) : (if b = true then b else false) = b := by cases b <;> rfl

/-! ### within -/
def wi (x lo hi : Int) : Bool := decide (x ≥ lo) && decide (x ≤ hi)
theorem wi_iff {x lo hi : Int} : wi x lo hi = true ↔ lo ≤ x ∧ x ≤ hi := by simp [wi]
theorem w173 (k : Nat) (x lo hi : Int) : d63 k (x, (lo, (hi, ()))) = some ((wi x lo hi, ()), ()) := by
  simp only [d63, lt, wi]; cases decide (x ≥ lo) <;> rfl
/-! ### servers -/
abbrev sv0 : SV := ((0 : Int), ((0 : Int), ((0 : Int), ((0 : Int), ()))))
def prio (l : List SV) (i : Nat) : Int := (l.getD i sv0).2.2.2.1
def svB (s : SV) : Bool := wi s.1 1 1048576 && wi s.2.1 1 s.1 && wi s.2.2.1 0 (IntKind.wrap .i64 (s.1 - 1)) && wi s.2.2.2.1 0 255
def okAt (l : List SV) (i : Nat) : Prop := svB (l.getD i sv0) = true ∧ ∀ j, j < i → prio l j ≠ prio l i

theorem sv_loop (k0 : Nat) (K : Unit × Unit → Option ((Option I2 × Unit) × Unit)) (l : List SV) (hl : l.length ≤ 32) : ∀ m i k (seen : List Bool), i + m = l.length → m < k → seen.length = 256 → (∀ p, p < 256 → (seen.getD p false = true ↔ ∃ j, j < i ∧ prio l j = (p : Int))) →
    ((∀ j, i ≤ j → j < l.length → okAt l j) ∧ loopN (d66_L3 k0 K) k ((seen, ()), ((i : Int), (l, ((l.length : Int), ())))) = K ((), ())) ∨
    ((¬ ∀ j, i ≤ j → j < l.length → okAt l j) ∧ ∃ p, loopN (d66_L3 k0 K) k ((seen, ()), ((i : Int), (l, ((l.length : Int), ())))) = some ((some ((101 : Int), (p, ())), ()), ())) := by
  intro m
  induction m with
  | zero =>
    intro i k seen hi hk hs hv
    obtain ⟨k, rfl⟩ : ∃ k', k = k' + 1 := ⟨k - 1, by omega⟩
    exact .inl ⟨fun j h1 h2 => by omega, by simp only [loopN, d66_L3, lt, dnlt (show l.length ≤ i by omega), Bool.false_eq_true, if_false]⟩
  | succ m ih =>
    intro i k seen hi hk hs hv
    obtain ⟨k, rfl⟩ : ∃ k', k = k' + 1 := ⟨k - 1, by omega⟩
    have h1 : i < l.length := by omega
    have hstep : loopN (d66_L3 k0 K) (k + 1) ((seen, ()), ((i : Int), (l, ((l.length : Int), ())))) = d66_L3 k0 K (loopN (d66_L3 k0 K) k) ((seen, ()), ((i : Int), (l, ((l.length : Int), ())))) := rfl
    by_cases hb : svB (l.getD i sv0) = true
    · have hb' := hb
      unfold svB at hb'
      simp only [Bool.and_eq_true] at hb'
      obtain ⟨⟨⟨b1, b2⟩, b3⟩, b4⟩ := hb'
      obtain ⟨q1, q2⟩ := wi_iff.1 b4
      obtain ⟨p, hp⟩ : ∃ p : Nat, (l.getD i sv0).2.2.2.1 = (p : Int) := ⟨_, (Int.toNat_of_nonneg q1).symm⟩
      have hp2 : p < 256 := by omega
      have c1 : (decide ((0 : Int) ≤ (p : Int)) && decide ((p : Int) < ((256 : Nat) : Int))) = true := by simp; omega
      have c2 : decide (p < seen.length) = true := by simp; omega
      have b5 : wi (p : Int) 0 255 = true := hp ▸ b4
      have hw := wr1 (show i < 4611686018427387904 by omega)
      cases hsn : seen.getD p false with
      | true =>
        obtain ⟨j, hj, hjp⟩ := (hv p hp2).1 hsn
        refine .inr ⟨fun h => ?_, ((i + 1 : Nat) : Int), ?_⟩
        · exact (h i (Nat.le_refl _) h1).2 j hj (hjp.trans hp.symm)
        · rw [hstep]
          simp only [d66_L3, lt, shr, dlt h1, dge0, Bool.and_self, if_true, Int.toNat_natCast, w173, Option.bind_some, b1, b2, b3, b5, hp, Bool.not_true, Bool.not_false, Bool.false_eq_true, if_false, dlt hp2, c2, hsn, Bool.or_true, beq_self_eq_true, Bool.and_true, Bool.true_and, hw]
      | false =>
        have hok : okAt l i := ⟨hb, fun j hj he => by
          have := (hv p hp2).2 ⟨j, hj, he.trans hp⟩
          rw [hsn] at this; cases this⟩
        have hv' : ∀ p', p' < 256 → ((seen.set p true).getD p' false = true ↔ ∃ j, j < i + 1 ∧ prio l j = (p' : Int)) := by
          intro p' hp'
          by_cases he : p' = p
          · subst he
            have : (seen.set p' true).getD p' false = true := by simp [List.getD, show p' < seen.length by omega]
            simp only [this, true_iff]
            exact ⟨i, by omega, hp⟩
          · have : (seen.set p true).getD p' false = seen.getD p' false := by
              simp [List.getD, List.getElem?_set, Ne.symm he]
            rw [this, hv p' hp']
            constructor
            · rintro ⟨j, a, b⟩; exact ⟨j, by omega, b⟩
            · rintro ⟨j, a, b⟩
              by_cases hji : j = i
              · subst hji
                have : (p' : Int) = (p : Int) := b.symm.trans hp
                omega
              · exact ⟨j, by omega, b⟩
        have he : loopN (d66_L3 k0 K) (k + 1) ((seen, ()), ((i : Int), (l, ((l.length : Int), ())))) = loopN (d66_L3 k0 K) k ((seen.set p true, ()), (((i + 1 : Nat) : Int), (l, ((l.length : Int), ())))) := by
          rw [hstep]
          simp only [d66_L3, lt, shr, dlt h1, dge0, Bool.and_self, if_true, Int.toNat_natCast, w173, Option.bind_some, b1, b2, b3, b5, hp, Bool.not_true, Bool.not_false, Bool.false_eq_true, if_false, dlt hp2, c2, hsn, Bool.or_true, beq_self_eq_true, Bool.and_true, Bool.true_and, d66_K2, hw]
        rw [he]
        rcases ih (i + 1) k (seen.set p true) (by omega) (by omega) (by simpa using hs) hv' with ⟨g1, g2⟩ | ⟨g1, g2⟩
        · exact .inl ⟨fun j a b => by
            rcases Nat.lt_or_ge i j with h | h
            · exact g1 j h b
            · obtain rfl : j = i := by omega
              exact hok, g2⟩
        · exact .inr ⟨fun h => g1 fun j a b => h j (by omega) b, g2⟩
    · refine .inr ⟨fun h => hb (h i (Nat.le_refl _) h1).1, ((i + 1 : Nat) : Int), ?_⟩
      rw [hstep]
      have hw := wr1 (show i < 4611686018427387904 by omega)
      simp only [d66_L3, lt, shr, dlt h1, dge0, Bool.and_self, if_true, Int.toNat_natCast, w173, Option.bind_some, hw]
      unfold svB at hb
      have key : ∀ b1 b2 b3 b4 : Bool, wi (l.getD i sv0).1 1 1048576 = b1 → wi (l.getD i sv0).2.1 1 (l.getD i sv0).1 = b2 → wi (l.getD i sv0).2.2.1 0 (IntKind.wrap .i64 ((l.getD i sv0).1 - 1)) = b3 → wi (l.getD i sv0).2.2.2.1 0 255 = b4 → (b1 && b2 && b3 && b4) = true → False := by
        intro b1 b2 b3 b4 h1 h2 h3 h4 h
        rw [h1, h2, h3, h4] at hb; exact hb h
      cases h1 : wi (l.getD i sv0).1 1 1048576 <;> cases h2 : wi (l.getD i sv0).2.1 1 (l.getD i sv0).1 <;> cases h3 : wi (l.getD i sv0).2.2.1 0 (IntKind.wrap .i64 ((l.getD i sv0).1 - 1)) <;> cases h4 : wi (l.getD i sv0).2.2.2.1 0 255 <;>
        first
        | (exact (key _ _ _ _ h1 h2 h3 h4 rfl).elim)
        | simp [h1, h2, h3, h4]
theorem sv_check (k : Nat) (hk : 40 < k) (l : List SV) : (l.length ≤ 32 ∧ (∀ j, j < l.length → okAt l j) ∧ d66 k (l, ()) = some ((none, ()), ())) ∨ ((¬ (l.length ≤ 32 ∧ ∀ j, j < l.length → okAt l j)) ∧ ∃ e p, e ≠ (0 : Int) ∧ d66 k (l, ()) = some ((some (e, (p, ())), ()), ())) := by
  by_cases hl : l.length ≤ 32
  · have d1 : decide ((l.length : Int) > 32) = false := decide_eq_false (by omega)
    rcases sv_loop k d66_K1 l hl l.length 0 k (List.replicate 256 false) (by omega) (by omega) (by simp) (fun p hp => by
      have : (List.replicate 256 false).getD p false = false := by
        rw [List.getD_eq_getElem?_getD, List.getElem?_replicate]; split <;> rfl
      rw [this]
      simp) with ⟨g1, g2⟩ | ⟨g1, p, g2⟩
    · refine .inl ⟨hl, fun j hj => g1 j (Nat.zero_le _) hj, ?_⟩
      simp only [d66, lt, shr, d1, Bool.false_eq_true, if_false]
      exact g2.trans rfl
    · refine .inr ⟨fun h => g1 fun j _ hj => h.2 j hj, 101, p, by decide, ?_⟩
      simp only [d66, lt, shr, d1, Bool.false_eq_true, if_false]
      exact g2
  · have d1 : decide ((l.length : Int) > 32) = true := decide_eq_true (by omega)
    exact .inr ⟨fun h => hl h.1, 100, 0, by decide, by simp only [d66, lt, d1, if_true]⟩

/-! ### the document's servers -/
end Go.Proofs.YtjnnmgjpnbfhlaaGreatDoor.L.C
