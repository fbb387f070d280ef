import Derived.Test.YtledeaknnihlmaaFaX5
namespace Go.Proofs.Ytledeaknnihlmaa.L
open Go Go.Lift
set_option linter.unusedVariables false
set_option linter.unusedSimpArgs false
set_option maxRecDepth 100000

theorem set_over {α : Type} {l a : List α} {i : Nat} (h1 : i < l.length) (ha : a.length = l.length) : (l.take i ++ a.drop i).set i l[i] = l.take (i + 1) ++ a.drop (i + 1) := by
  have q : (l.take i).length = i := by rw [List.length_take]; omega
  rw [List.set_append_right _ _ (by omega), q, Nat.sub_self, drop_cons (show i < a.length by omega), List.set_cons_zero, List.take_succ_eq_append_getElem h1, List.append_assoc]
  rfl
theorem over_len {α : Type} {l a : List α} {i : Nat} (ha : a.length = l.length) : (l.take i ++ a.drop i).length = l.length := by
  rw [List.length_append, List.length_take, List.length_drop]; omega
theorem over_end {α : Type} {l a : List α} {i : Nat} (h : l.length ≤ i) (ha : a.length = l.length) : l.take i ++ a.drop i = l := by
  rw [List.take_of_length_le h, List.drop_of_length_le (by omega), List.append_nil]
/-- An image with its ports as they are being written over. -/
def gO (G : WI) (l a : List PO) (i : Nat) : WI := (G.1, ((l.take i ++ a.drop i, l.length), G.2.2))
theorem d15_L9_ok (X : ((WI × WI × WI × WI × Unit) × Int × Bool × Unit) → Option ((Bool × Unit) × Unit)) (y G o x : WI) (a : List PO) (part : Int) (b : Bool) (ha : a.length = (Vw y.2.1).length) (hb : (Vw y.2.1).length < 4611686018427387904) : ∀ m i k, i + m = (Vw y.2.1).length → m < k →
    loopN (d15_L9 X) k ((y, (gO G (Vw y.2.1) a i, (o, (x, ())))), ((i : Int), (part, (b, ())))) = X ((o, ((G.1, ((Vw y.2.1, (Vw y.2.1).length), G.2.2)), (y, (x, ())))), (part, (b, ()))) := by
  intro m
  induction m with
  | zero =>
    intro i k hi hk
    obtain ⟨k, rfl⟩ : ∃ k', k = k' + 1 := ⟨k - 1, by omega⟩
    unfold gO
    rw [over_end (by omega) ha]
    simp only [loopN, d15_L9, lt, dnlt (show (Vw y.2.1).length ≤ i by omega), Bool.false_eq_true, if_false]
  | succ m ih =>
    intro i k hi hk
    obtain ⟨k, rfl⟩ : ∃ k', k = k' + 1 := ⟨k - 1, by omega⟩
    have h1 : i < (Vw y.2.1).length := by omega
    have h3 : i < ((Vw y.2.1).take i ++ a.drop i).length := by rw [over_len ha]; exact h1
    have hih := ih (i + 1) k (by omega) (by omega)
    unfold gO at hih ⊢
    simp only [loopN, d15_L9, lt, shr, dlt h1, nlt h1, nlt h3, dge0, Bool.and_self, Bool.and_true, if_true, Int.toNat_natCast, getD_mem h1, set_over h1 ha, d15_K8, wr1 (show i < 4611686018427387904 by omega)]
    exact hih
theorem d15_L6_ok (X : ((WI × WI × WI × WI × Unit) × Int × Bool × Bool × Unit) → Option ((Bool × Unit) × Unit)) (y G o x : WI) (l a : List PO) (part : Int) (b c : Bool) (ho : o.2.1 = (l, l.length)) (ha : a.length = l.length) (hb : l.length < 4611686018427387904) : ∀ m i k, i + m = l.length → m < k →
    loopN (d15_L6 X) k ((o, (gO G l a i, (y, (x, ())))), ((i : Int), (part, (b, (c, ()))))) = X ((y, ((G.1, ((l, l.length), G.2.2)), (x, (o, ())))), (part, (b, (c, ())))) := by
  intro m
  induction m with
  | zero =>
    intro i k hi hk
    obtain ⟨k, rfl⟩ : ∃ k', k = k' + 1 := ⟨k - 1, by omega⟩
    unfold gO
    rw [over_end (by omega) ha]
    simp only [loopN, d15_L6, lt, dnlt (show l.length ≤ i by omega), Bool.false_eq_true, if_false]
  | succ m ih =>
    intro i k hi hk
    obtain ⟨k, rfl⟩ : ∃ k', k = k' + 1 := ⟨k - 1, by omega⟩
    have h1 : i < l.length := by omega
    have h3 : i < (l.take i ++ a.drop i).length := by rw [over_len ha]; exact h1
    have hih := ih (i + 1) k (by omega) (by omega)
    unfold gO at hih ⊢
    simp only [loopN, d15_L6, lt, shr, ho, dlt h1, nlt h1, nlt h3, dge0, Bool.and_self, Bool.and_true, if_true, Int.toNat_natCast, getD_mem h1, set_over h1 ha, d15_K5, wr1 (show i < 4611686018427387904 by omega)]
    exact hih
theorem d15_L3_ok (X : ((WI × WI × WI × WI × Unit) × Int × Bool × Bool × Bool × Unit) → Option ((Bool × Unit) × Unit)) (y G o x : WI) (a : List PO) (part : Int) (b c d : Bool) (ha : a.length = (Vw y.2.1).length) (hb : (Vw y.2.1).length < 4611686018427387904) : ∀ m i k, i + m = (Vw y.2.1).length → m < k →
    loopN (d15_L3 X) k ((y, (gO G (Vw y.2.1) a i, (x, (o, ())))), ((i : Int), (part, (b, (c, (d, ())))))) = X ((y, (x, (o, ((G.1, ((Vw y.2.1, (Vw y.2.1).length), G.2.2)), ())))), (part, (b, (c, (d, ()))))) := by
  intro m
  induction m with
  | zero =>
    intro i k hi hk
    obtain ⟨k, rfl⟩ : ∃ k', k = k' + 1 := ⟨k - 1, by omega⟩
    unfold gO
    rw [over_end (by omega) ha]
    simp only [loopN, d15_L3, lt, dnlt (show (Vw y.2.1).length ≤ i by omega), Bool.false_eq_true, if_false]
  | succ m ih =>
    intro i k hi hk
    obtain ⟨k, rfl⟩ : ∃ k', k = k' + 1 := ⟨k - 1, by omega⟩
    have h1 : i < (Vw y.2.1).length := by omega
    have h3 : i < ((Vw y.2.1).take i ++ a.drop i).length := by rw [over_len ha]; exact h1
    have hih := ih (i + 1) k (by omega) (by omega)
    unfold gO at hih ⊢
    simp only [loopN, d15_L3, lt, shr, dlt h1, nlt h1, nlt h3, dge0, Bool.and_self, Bool.and_true, if_true, Int.toNat_natCast, getD_mem h1, set_over h1 ha, d15_K2, wr1 (show i < 4611686018427387904 by omega)]
    exact hih
theorem sI_p (G : WI) (z : List PO × Nat) : sI (G.1, (z, G.2.2)) = ((sI G).1, (Vw z, (sI G).2.2)) := rfl
theorem d15_val (k : Nat) (X Y : WI) (hX : FitI k (sI X)) (hY : FitI k (sI Y)) (rY : RmI Y) (h1 : (Vw Y.1).length < k) (h2 : (Vw Y.2.2.1).length < k) {part : Int} (hp : 1 ≤ part ∧ part ≤ ((sI X).1.length : Int)) :
    d15 k (X, (Y, (part, ()))) = some ((true, ()), ()) := by
  have hn : (Vw Y.2.1).length < k := by
    have q : (Vw Y.2.1).length ≤ 70 := hY.sm.p
    have := hY.kk
    omega
  have hb := rY.q.2
  have q5 := d5_eq k Y rY h1 h2
  have q35 := d35_val k Y.2.1 rY.q hn
  have hfl : ((Vw Y.2.1).map fQ).length = (Vw Y.2.1).length := List.length_map ..
  -- the images
  have eO : sI ((gI Y).1, (((Vw Y.2.1).map fQ, (Vw Y.2.1).length), (gI Y).2.2)) = ((sI Y).1, ((Vw Y.2.1).map fQ, (sI Y).2.2)) := by
    rw [sI_p, sI_g, show Vw ((Vw Y.2.1).map fQ, (Vw Y.2.1).length) = (Vw Y.2.1).map fQ from vwM _ _]
  have eY : sI ((gI Y).1, ((Vw Y.2.1, (Vw Y.2.1).length), (gI Y).2.2)) = sI Y := by
    rw [sI_p, sI_g, show Vw (Vw Y.2.1, (Vw Y.2.1).length) = Vw Y.2.1 from vwA _]
    rfl
  have hO : FitI k ((sI Y).1, ((Vw Y.2.1).map fQ, (sI Y).2.2)) := by
    refine ⟨hY.kk, ⟨hY.sm.n, ?_, hY.sm.c, hY.sm.t⟩, hY.ps⟩
    show ((Vw Y.2.1).map fQ).length ≤ 70
    rw [hfl]; exact hY.sm.p
  obtain ⟨a, a1, a2⟩ := alike_both ((sI Y).1, ((Vw Y.2.1).map fQ, (sI Y).2.2)) hX hp
  obtain ⟨c, c1, c2⟩ := alike_both (sI Y) hX hp
  have hyl : ((sI Y).1.length : Int) = (((Vw Y.1).length : Nat) : Int) := by rw [show (sI Y).1.length = (Vw Y.1).length from List.length_map ..]
  have w1 := fun K b => d15_L9_ok K Y ((gI Y).1, (((Vw Y.2.1).map fQ, (Vw Y.2.1).length), (gI Y).2.2)) ((gI Y).1, (((Vw Y.2.1).map fQ, (Vw Y.2.1).length), (gI Y).2.2)) X ((Vw Y.2.1).map fQ) part b hfl (by omega) (Vw Y.2.1).length 0 k (by omega) hn
  have w2 := fun K b c => d15_L6_ok K Y ((gI Y).1, ((Vw Y.2.1, (Vw Y.2.1).length), (gI Y).2.2)) ((gI Y).1, (((Vw Y.2.1).map fQ, (Vw Y.2.1).length), (gI Y).2.2)) X ((Vw Y.2.1).map fQ) (Vw Y.2.1) part b c (by rw [hfl]) hfl.symm (by omega) ((Vw Y.2.1).map fQ).length 0 k (by omega) (by omega)
  have w3 := fun K b c d => d15_L3_ok K Y ((gI Y).1, (((Vw Y.2.1).map fQ, ((Vw Y.2.1).map fQ).length), (gI Y).2.2)) ((gI Y).1, (((Vw Y.2.1).map fQ, (Vw Y.2.1).length), (gI Y).2.2)) X ((Vw Y.2.1).map fQ) part b c d hfl (by omega) (Vw Y.2.1).length 0 k (by omega) hn
  unfold gO at w1 w2 w3
  simp only [List.take_zero, List.drop_zero, List.nil_append, List.length_map] at w1 w2 w3
  rw [d15_def]
  simp only [q5, q35, Option.bind_some, shr, sI_eq, eO, a1]
  refine Eq.trans (w1 _ _) ?_
  simp only [d15_K7_def, shr, sI_eq, eY, c1, Option.bind_some]
  refine Eq.trans (w2 _ _ _) ?_
  by_cases hy : part > (((Vw Y.1).length : Nat) : Int)
  · have b1 := alike_no (k := k) ((sI Y).1, ((Vw Y.2.1).map fQ, (sI Y).2.2)) (sI X) (part := part) (fun h => by have := h.2; rw [hyl] at this; omega)
    have dd1 := alike_no (k := k) (sI Y) (sI X) (part := part) (fun h => by have := h.2; rw [hyl] at this; omega)
    simp only [d15_K4_def, shr, sI_eq, eO, b1, Option.bind_some]
    refine Eq.trans (w3 _ _ _ _) ?_
    simp only [d15_K1_def, sI_eq, eO, eY, dd1, a2, c2, Option.bind_some, lt, decide_eq_true hy, Bool.not_false, beq_self_eq_true, Bool.and_self, if_true]
  · obtain ⟨b, b1, b2⟩ := alike_both (sI X) hO (part := part) ⟨hp.1, by show part ≤ ((sI Y).1.length : Int); rw [hyl]; omega⟩
    obtain ⟨dv, dd1, dd2⟩ := alike_both (sI X) hY (part := part) ⟨hp.1, by rw [hyl]; omega⟩
    simp only [d15_K4_def, shr, sI_eq, eO, b1, Option.bind_some]
    refine Eq.trans (w3 _ _ _ _) ?_
    simp only [d15_K1_def, sI_eq, eO, eY, dd1, dd2, a2, b2, c2, Option.bind_some, lt, decide_eq_false hy, Bool.false_eq_true, if_false, beq_self_eq_true, Bool.and_self, if_true]
/-! ### the law -/
theorem d3_val (k : Nat) (x y : WI) (X Y : WI) (eX : d4 k (x, ()) = some ((X, ()), ())) (eY : d4 k (y, ()) = some ((Y, ()), ())) (rX : RmI X) (rY : RmI Y) (hX : FitI k (sI X)) (hY : FitI k (sI Y)) (z z2 : List WN × Nat) (hz : RmN z) (hz2 : RmN z2)
    (k1 : (Vw X.1).length < k) (k2 : (Vw X.2.2.1).length < k) (k3 : (Vw Y.1).length < k) (k4 : (Vw Y.2.2.1).length < k) (k5 : (Vw z).length < k) (k6 : (Vw z2).length < k) (f1 : ∀ x ∈ Vw z, (Vw x.2.2.2.1).length < k) (f2 : ∀ x ∈ Vw z2, (Vw x.2.2.2.1).length < k) (part : Int) :
    d3 k (x, (y, (z, (z2, (part, ()))))) = some ((true, ()), ()) := by
  have hz1' := fitN_of hz k5 f1
  have hz2' := fitN_of hz2 k6 f2
  have q5 := d5_eq k X rX k1 k2
  have q5' := d5_eq k Y rY k3 k4
  have q7 := d7_val k z hz k5
  have q7' := d7_val k z2 hz2 k6
  have q9 := d9_val k z hz k5 f1
  have q9' := d9_val k z2 hz2 k6 f2
  have hg : (gI X).1.2 = (Vw X.1).length := rfl
  have hxl : ((sI X).1.length : Int) = (((Vw X.1).length : Nat) : Int) := by rw [show (sI X).1.length = (Vw X.1).length from List.length_map ..]
  rw [d3_def]
  by_cases hp : 1 ≤ part ∧ part ≤ ((sI X).1.length : Int)
  · obtain ⟨a, a1, a2⟩ := alike_both (sI Y) hX hp
    obtain ⟨b, b1, b2⟩ := inputs_both hX hz1' hz2' hp
    have e1 : decide (part < 1) = false := decide_eq_false (by omega)
    have e2 : decide (part > (((Vw X.1).length : Nat) : Int)) = false := decide_eq_false (by omega)
    have q12 := d12_val k hX
    have q12' := d12_val k hY
    have q13 := d13_val k X rX k1 k2
    have q13' := d13_val k Y rY k3 k4
    have q14 := d14_val k (gI X) (by rw [sI_g]; exact hX) z z2 hz k5 f1 hz2' (part := part) (by rw [sI_g]; exact hp)
    have q15 := d15_val k (gI X) (gI Y) (by rw [sI_g]; exact hX) (by rw [sI_g]; exact hY) rY.g (by rw [g1, List.length_map]; exact k3) (by rw [g3, List.length_map]; exact k4) (part := part) (by rw [sI_g]; exact hp)
    simp only [eX, eY, q5, q5', q7, q7', q9, q9', sI_eq, sL_eq, sI_g, sL_g, a1, a2, b1, b2, hg, e1, e2, q12, q12', q13, q13', q14, q15, Option.bind_some, lt, Bool.not_true, Bool.not_false, guO, guA, iteO, iteA, Bool.or_self, Bool.and_self, Bool.true_and, beq_self_eq_true, show ((0 : Int) != (0 : Int)) = false from rfl, Bool.false_eq_true, if_false, if_true]
  · have a1 := alike_no (k := k) (sI X) (sI Y) hp
    have b1 := inputs_no (k := k) (sI X) (sL z) (sL z2) hp
    have e1 : (decide (part < 1) || decide (part > (((Vw X.1).length : Nat) : Int))) = true := by
      by_cases q : part < 1
      · rw [decide_eq_true q]; rfl
      · rw [decide_eq_true (show part > (((Vw X.1).length : Nat) : Int) by omega), Bool.or_true]
    simp only [eX, eY, q5, q5', q7, q7', q9, q9', sI_eq, sL_eq, sI_g, sL_g, a1, b1, hg, e1, Option.bind_some, lt, Bool.not_true, Bool.not_false, guO, guA, iteO, iteA, Bool.or_self, Bool.and_self, Bool.true_and, beq_self_eq_true, Bool.false_eq_true, if_false, if_true]
end Go.Proofs.Ytledeaknnihlmaa.L
