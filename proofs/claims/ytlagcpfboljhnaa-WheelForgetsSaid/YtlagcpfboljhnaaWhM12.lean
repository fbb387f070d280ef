import Derived.Test.YtlagcpfboljhnaaWhM11
namespace Go.Proofs.Ytlagcpfboljhnaa.L
open Go Go.Lift
set_option linter.unusedVariables false
set_option linter.unusedSimpArgs false
/-! ### WheelFires: same, ordered -/
theorem d13_run (K : (Unit × Unit) → Option ((Bool × Unit) × Unit)) (l : List I2) (hb : l.length < 4611686018427387904) :
    ∀ (c j f : Nat), j + c = l.length → c + 1 ≤ f → loopN (d13_L2 K) f ((), ((j : Int), (l, (l, ())))) = K ((), ())
  | 0, j, f + 1, h, hf => by
    show d13_L2 K (loopN (d13_L2 K) f) _ = _
    generalize loopN (d13_L2 K) f = G
    unfold d13_L2
    have c1 : decide ((j : Int) < (l.length : Int)) = false := decide_eq_false (by omega)
    simp only [lt, c1, Bool.false_eq_true, if_false]
  | c + 1, j, f + 1, h, hf => by
    have hj : j < l.length := by omega
    rw [← d13_run K l hb c (j + 1) f (by omega) (by omega)]
    show d13_L2 K (loopN (d13_L2 K) f) _ = _
    generalize loopN (d13_L2 K) f = G
    unfold d13_L2
    have c1 : decide ((j : Int) < (l.length : Int)) = true := decide_eq_true (by omega)
    have c2 : decide ((0 : Int) ≤ (j : Int)) = true := decide_eq_true (by omega)
    have e4 : IntKind.i64.wrap ((j : Int) + 1) = ((j + 1 : Nat) : Int) := by rw [wrap_in _ (by omega)]; omega
    simp only [lt, shr, c1, c2, Bool.and_true, if_true, beq_self_eq_true, Bool.not_true, Bool.false_eq_true, if_false, d13_K1, e4]
theorem d13_eq (k : Nat) (l : List I2) (hb : l.length < 4611686018427387904) (hk : l.length + 1 ≤ k) : d13 k (l, (l, ())) = some ((true, ()), ()) := by
  unfold d13
  simp only [lt, bne_self_eq_false, Bool.false_eq_true, if_false, shr]
  exact d13_run _ l hb l.length 0 k (by omega) hk
theorem d8_run (K : (Unit × Unit) → Option ((Bool × Unit) × Unit)) (l : List I2) (hb : l.length < 4611686018427387904) (hs : l.Pairwise Fb) (fr to : Int) (hr : ∀ x ∈ l, fr ≤ x.1 ∧ x.1 ≤ to) :
    ∀ (c j f : Nat), j + c = l.length → c + 1 ≤ f → loopN (d8_L2 K) f ((), ((j : Int), (l, (to, (fr, ()))))) = K ((), ())
  | 0, j, f + 1, h, hf => by
    show d8_L2 K (loopN (d8_L2 K) f) _ = _
    generalize loopN (d8_L2 K) f = G
    unfold d8_L2
    have c1 : decide ((j : Int) < (l.length : Int)) = false := decide_eq_false (by omega)
    simp only [lt, c1, Bool.false_eq_true, if_false]
  | c + 1, j, f + 1, h, hf => by
    have hj : j < l.length := by omega
    obtain ⟨r1, r2⟩ := hr _ (List.getElem_mem hj)
    rw [← d8_run K l hb hs fr to hr c (j + 1) f (by omega) (by omega)]
    show d8_L2 K (loopN (d8_L2 K) f) _ = _
    generalize loopN (d8_L2 K) f = G
    unfold d8_L2
    have c1 : decide ((j : Int) < (l.length : Int)) = true := decide_eq_true (by omega)
    have c2 : decide ((0 : Int) ≤ (j : Int)) = true := decide_eq_true (by omega)
    have e2 : l.getD (j : Int).toNat (0, (0, ())) = l[j] := by rw [Int.toNat_natCast]; exact getD_get hj _
    have e4 : IntKind.i64.wrap ((j : Int) + 1) = ((j + 1 : Nat) : Int) := by rw [wrap_in _ (by omega)]; omega
    have c3 : decide (l[j].1 < fr) = false := decide_eq_false (by omega)
    have c4 : decide (l[j].1 > to) = false := decide_eq_false (by omega)
    have c0 : (false == true) = false := rfl
    cases j with
    | zero =>
      have c5 : decide (((0 : Nat) : Int) > 0) = false := rfl
      simp only [lt, shr, c1, c2, Bool.and_true, Bool.or_true, if_true, e2, c3, c4, Bool.false_eq_true, if_false, c5, c0, Bool.false_and, Bool.and_false, Bool.not_false, Bool.true_or, d8_K1, e4]
    | succ j =>
      have hj' : j < l.length := by omega
      have hfb := (List.pairwise_iff_getElem.1 hs) j (j + 1) hj' hj (by omega)
      have c5 : decide (((j + 1 : Nat) : Int) > 0) = true := decide_eq_true (by omega)
      have e5 : IntKind.i64.wrap (((j + 1 : Nat) : Int) - 1) = (j : Int) := by rw [wrap_in _ (by omega)]; omega
      have g1 : decide ((j : Int) < (l.length : Int)) = true := decide_eq_true (by omega)
      have g2 : decide ((0 : Int) ≤ (j : Int)) = true := decide_eq_true (by omega)
      have g3 : l.getD (j : Int).toNat (0, (0, ())) = l[j] := by rw [Int.toNat_natCast]; exact getD_get hj' _
      have g4 : decide (l[j].1 > l[j + 1].1) = false := decide_eq_false (by rcases hfb with h | h <;> omega)
      simp only [lt, shr, c1, c2, Bool.and_true, Bool.or_true, if_true, e2, c3, c4, Bool.false_eq_true, if_false, c5, e5, g1, g2, g3, g4, Bool.and_self]
      by_cases he : l[j].1 = l[j + 1].1
      · have g5 : (l[j].1 == l[j + 1].1) = true := by simpa using he
        have g6 : decide (l[j].2.1 ≥ l[j + 1].2.1) = false := decide_eq_false (by rcases hfb with h | h <;> omega)
        simp only [g5, g6, if_true, Bool.false_eq_true, if_false, d8_K1, e4]
      · have g5 : (l[j].1 == l[j + 1].1) = false := by simpa using he
        simp only [g5, Bool.false_eq_true, if_false, d8_K1, e4]
theorem d8_eq (k : Nat) (l : List I2) (hb : l.length < 4611686018427387904) (hk : l.length + 1 ≤ k) (hs : l.Pairwise Fb) (fr to : Int) (hr : ∀ x ∈ l, fr ≤ x.1 ∧ x.1 ≤ to) : d8 k (l, (fr, (to, ()))) = some ((true, ()), ()) := by
  unfold d8
  simp only [shr]
  exact d8_run _ l hb hs fr to hr l.length 0 k (by omega) hk
/-! ### each one that came was armed, each armed one came -/
theorem W14_run (x0 : Nat) (K : ((List I2 × (Option WH × Unit)) × (List I2 × (Int × (List Int × Unit)))) → Option ((Bool × Unit) × Unit)) (l : List I2) (hb : l.length < 4611686018427387904) (w : Option WH) (arms : List I2) (hab : arms.length < 4611686018427387904) (hx : arms.length + 1 ≤ x0) (now : Int) (steps : List Int)
    (ha : ∀ f ∈ l, lastP now arms f.2.1 = some f.1) :
    ∀ (c j f : Nat), j + c = l.length → c + 1 ≤ f → loopN (d3_L14 x0 K) f ((l, (w, ())), ((j : Int), (now, (arms, (steps, ()))))) = K ((l, (w, ())), (arms, (now, (steps, ()))))
  | 0, j, f + 1, h, hf => by
    show d3_L14 x0 K (loopN (d3_L14 x0 K) f) _ = _
    generalize loopN (d3_L14 x0 K) f = G
    unfold d3_L14
    have c1 : decide ((j : Int) < (l.length : Int)) = false := decide_eq_false (by omega)
    simp only [lt, c1, Bool.false_eq_true, if_false]
  | c + 1, j, f + 1, h, hf => by
    have hj : j < l.length := by omega
    rw [← W14_run x0 K l hb w arms hab hx now steps ha c (j + 1) f (by omega) (by omega)]
    show d3_L14 x0 K (loopN (d3_L14 x0 K) f) _ = _
    generalize loopN (d3_L14 x0 K) f = G
    unfold d3_L14
    have c1 : decide ((j : Int) < (l.length : Int)) = true := decide_eq_true (by omega)
    have c2 : decide ((0 : Int) ≤ (j : Int)) = true := decide_eq_true (by omega)
    have c3 : decide ((j : Int).toNat < l.length) = true := decide_eq_true (by omega)
    have e2 : l.getD (j : Int).toNat (0, (0, ())) = l[j] := by rw [Int.toNat_natCast]; exact getD_get hj _
    have e4 : IntKind.i64.wrap ((j : Int) + 1) = ((j + 1 : Nat) : Int) := by rw [wrap_in _ (by omega)]; omega
    simp only [lt, shr, c1, c2, c3, Bool.and_true, Bool.or_true, if_true, e2, d11_eq x0 arms hab hx, ha _ (List.getElem_mem hj), Option.bind_some, Option.isSome_some, Option.getD_some, Bool.not_true, Bool.false_eq_true, if_false, bne_self_eq_false, d3_K13, e4]
theorem W10_run (K : ((List I2 × (Option WH × Unit)) × (List I2 × (Int × (List Int × (Int × (Bool × (Bool × Unit))))))) → Option ((Bool × Unit) × Unit)) (l : List I2) (hb : l.length < 4611686018427387904) (w : Option WH) (arms : List I2) (i : Nat) (hi : i < arms.length) (now : Int) (steps : List Int) (ok : Bool) :
    ∀ (c j f : Nat) (b : Bool), j + c = l.length → c + 1 ≤ f →
      loopN (d3_L10 K) f ((l, (w, ())), ((j : Int), ((i : Int), (arms, (b, (now, (steps, (ok, ())))))))) = K ((l, (w, ())), (arms, (now, (steps, ((i : Int), ((b || (l.drop j).any (isid arms[i].2.1)), (ok, ())))))))
  | 0, j, f + 1, b, h, hf => by
    rw [List.drop_eq_nil_of_le (by omega)]
    show d3_L10 K (loopN (d3_L10 K) f) _ = _
    generalize loopN (d3_L10 K) f = G
    unfold d3_L10
    have c1 : decide ((j : Int) < (l.length : Int)) = false := decide_eq_false (by omega)
    simp only [lt, c1, Bool.false_eq_true, if_false, List.any_nil, Bool.or_false]
  | c + 1, j, f + 1, b, h, hf => by
    have hj : j < l.length := by omega
    have IH := W10_run K l hb w arms i hi now steps ok c (j + 1) f (if b = true then true else l[j].2.1 == arms[i].2.1) (by omega) (by omega)
    have : (b || (l.drop j).any (isid arms[i].2.1)) = ((if b = true then true else l[j].2.1 == arms[i].2.1) || (l.drop (j + 1)).any (isid arms[i].2.1)) := by
      rw [List.drop_eq_getElem_cons hj, List.any_cons]
      cases b <;> simp [isid]
    rw [this, ← IH]
    show d3_L10 K (loopN (d3_L10 K) f) _ = _
    generalize loopN (d3_L10 K) f = G
    unfold d3_L10
    have c1 : decide ((j : Int) < (l.length : Int)) = true := decide_eq_true (by omega)
    have c2 : decide ((0 : Int) ≤ (j : Int)) = true := decide_eq_true (by omega)
    have c3 : decide ((j : Int).toNat < l.length) = true := decide_eq_true (by omega)
    have e2 : l.getD (j : Int).toNat (0, (0, ())) = l[j] := by rw [Int.toNat_natCast]; exact getD_get hj _
    have e4 : IntKind.i64.wrap ((j : Int) + 1) = ((j + 1 : Nat) : Int) := by rw [wrap_in _ (by omega)]; omega
    have g1 : decide ((i : Int) < (arms.length : Int)) = true := decide_eq_true (by omega)
    have g2 : decide ((0 : Int) ≤ (i : Int)) = true := decide_eq_true (by omega)
    have g3 : arms.getD (i : Int).toNat (0, (0, ())) = arms[i] := by rw [Int.toNat_natCast]; exact getD_get hi _
    simp only [lt, shr, c1, c2, c3, Bool.and_true, Bool.or_true, if_true, e2, g1, g2, g3, d3_K9, e4]
theorem W11_run (x0 : Nat) (K : ((List I2 × (Option WH × Unit)) × (List Int × Unit)) → Option ((Bool × Unit) × Unit)) (l : List I2) (hb : l.length < 4611686018427387904) (hxl : l.length + 1 ≤ x0) (w : Option WH) (arms : List I2) (hab : arms.length < 4611686018427387904) (hx : arms.length + 1 ≤ x0) (now : Int) (steps : List Int)
    (ha : ∀ a ∈ arms, l.any (isid a.2.1) = (lastP now arms a.2.1).isSome) :
    ∀ (c j f : Nat), j + c = arms.length → c + 1 ≤ f → loopN (d3_L11 x0 K) f ((l, (w, ())), ((j : Int), (arms, (now, (steps, ()))))) = K ((l, (w, ())), (steps, ()))
  | 0, j, f + 1, h, hf => by
    show d3_L11 x0 K (loopN (d3_L11 x0 K) f) _ = _
    generalize loopN (d3_L11 x0 K) f = G
    unfold d3_L11
    have c1 : decide ((j : Int) < (arms.length : Int)) = false := decide_eq_false (by omega)
    simp only [lt, c1, Bool.false_eq_true, if_false]
  | c + 1, j, f + 1, h, hf => by
    have hj : j < arms.length := by omega
    rw [← W11_run x0 K l hb hxl w arms hab hx now steps ha c (j + 1) f (by omega) (by omega)]
    show d3_L11 x0 K (loopN (d3_L11 x0 K) f) _ = _
    generalize loopN (d3_L11 x0 K) f = G
    have q := W10_run (d3_K8 (d3_K7 G)) l hb w arms j hj now steps (lastP now arms arms[j].2.1).isSome l.length 0 x0 false (by omega) (by omega)
    unfold d3_L11
    have c1 : decide ((j : Int) < (arms.length : Int)) = true := decide_eq_true (by omega)
    have c2 : decide ((0 : Int) ≤ (j : Int)) = true := decide_eq_true (by omega)
    have e2 : arms.getD (j : Int).toNat (0, (0, ())) = arms[j] := by rw [Int.toNat_natCast]; exact getD_get hj _
    have e4 : IntKind.i64.wrap ((j : Int) + 1) = ((j + 1 : Nat) : Int) := by rw [wrap_in _ (by omega)]; omega
    simp only [lt, shr, c1, c2, Bool.and_true, if_true, e2, d11_eq x0 arms hab hx, Option.bind_some]
    rw [show (0 : Int) = ((0 : Nat) : Int) from rfl, q]
    unfold d3_K8
    simp only [lt, List.drop_zero, Bool.false_or, ha _ (List.getElem_mem hj), beq_self_eq_true, Bool.not_true, Bool.false_eq_true, if_false, d3_K7, e4]
end Go.Proofs.Ytlagcpfboljhnaa.L
