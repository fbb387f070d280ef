import Derived.Test.YtledeaknnihlmaaFaX4
namespace Go.Proofs.Ytledeaknnihlmaa.L
open Go Go.Lift
set_option linter.unusedVariables false
set_option linter.unusedSimpArgs false
set_option maxRecDepth 100000

theorem d14_L6_ok (X : (((List WN × Nat) × WI × (List WN × Nat) × Unit) × (List WN × Nat) × Int × (List WN × Nat) × Unit) → Option ((Bool × Unit) × Unit)) (x : WI) (z z2 : List WN × Nat) (part : Int) (hz : Rm (Vw z).length 48) : ∀ m k, m ≤ (Vw z).length → m < k →
    loopN (d14_L6 X) k (((((Vw z).drop m).reverse, ((Vw z).drop m).length), ((((Vw z).drop m).reverse, ((Vw z).drop m).length), (x, ()))), (((m : Int) - 1), (z, (part, (z2, ()))))) = X ((((Vw z).reverse, (Vw z).length), (x, (((Vw z).reverse, (Vw z).length), ()))), (z, (part, (z2, ())))) := by
  have hb := hz.2
  intro m
  induction m with
  | zero =>
    intro k hi hk
    obtain ⟨k, rfl⟩ : ∃ k', k = k' + 1 := ⟨k - 1, by omega⟩
    have e : decide ((((0 : Nat) : Int) - 1) ≥ (0 : Int)) = false := rfl
    simp only [loopN, d14_L6, lt, e, Bool.false_eq_true, if_false, List.drop_zero]
  | succ m ih =>
    intro k hi hk
    obtain ⟨k, rfl⟩ : ∃ k', k = k' + 1 := ⟨k - 1, by omega⟩
    have h1 : m < (Vw z).length := by omega
    have hih := ih k (by omega) (by omega)
    have e0 : (((m + 1 : Nat) : Int) - 1) = (m : Int) := by omega
    have w : IntKind.wrap .i64 ((m : Int) - 1) = (m : Int) - 1 := wrI (by omega) (by omega)
    have hl : (((Vw z).drop (m + 1)).reverse).length = (Vw z).length - (m + 1) := by rw [List.length_reverse, List.length_drop]
    have hfit : appFits (((Vw z).drop (m + 1)).reverse).length 1 48 = true := by rw [hl]; exact (hz.mono (by omega)).fit1
    have hd : decide (((Vw z).drop (m + 1)).length = (((Vw z).drop (m + 1)).reverse).length) = true := decide_eq_true (List.length_reverse ..).symm
    have et : ((Vw z).drop (m + 1)).reverse ++ (Vw z)[m] :: [] = ((Vw z).drop m).reverse := by
      rw [drop_cons h1, List.reverse_cons]
    have el : (((Vw z).drop m).reverse).length = ((Vw z).drop m).length := List.length_reverse ..
    rw [e0]
    simp only [loopN, d14_L6, lt, shr, pg0, dlt h1, dge0, Bool.and_self, if_true, Int.toNat_natCast, getD_mem h1, List.length_cons, List.length_nil, Nat.zero_add, hd, hfit, et, el, d14_K5, w]
    exact hih
/-- A list written over, place by place. -/
theorem d14_L3_ok (X : ((WI × (List WN × Nat) × (List WN × Nat) × Unit) × Int × (List WN × Nat) × (List WN × Nat) × Bool × Unit) → Option ((Bool × Unit) × Unit)) (x : WI) (A B z z2 : List WN × Nat) (part : Int) (b : Bool) (hA : A.1.length = (Vw z).length) (hA2 : A.2 = (Vw z).length) (hb : (Vw z).length < 4611686018427387904) : ∀ m i k, i + m = (Vw z).length → m < k →
    loopN (d14_L3 X) k (((((Vw z).take i ++ A.1.drop i), A.2), (x, (B, ()))), ((i : Int), (z, (part, (z2, (b, ())))))) = X ((x, (B, ((Vw z, A.2), ()))), (part, (z2, (z, (b, ()))))) := by
  intro m
  induction m with
  | zero =>
    intro i k hi hk
    obtain ⟨k, rfl⟩ : ∃ k', k = k' + 1 := ⟨k - 1, by omega⟩
    have e : (Vw z).take i ++ A.1.drop i = Vw z := by rw [List.take_of_length_le (by omega), List.drop_of_length_le (by omega), List.append_nil]
    rw [e]
    simp only [loopN, d14_L3, lt, dnlt (show A.2 ≤ i by omega), Bool.false_eq_true, if_false]
  | succ m ih =>
    intro i k hi hk
    obtain ⟨k, rfl⟩ : ∃ k', k = k' + 1 := ⟨k - 1, by omega⟩
    have h1 : i < (Vw z).length := by omega
    have h2 : i < A.2 := by omega
    have hih := ih (i + 1) k (by omega) (by omega)
    have hl : ((Vw z).take i ++ A.1.drop i).length = (Vw z).length := by rw [List.length_append, List.length_take, List.length_drop]; omega
    have h3 : i < ((Vw z).take i ++ A.1.drop i).length := by omega
    have es : ((Vw z).take i ++ A.1.drop i).set i (Vw z)[i] = (Vw z).take (i + 1) ++ A.1.drop (i + 1) := by
      have q : ((Vw z).take i).length = i := by rw [List.length_take]; omega
      rw [List.set_append_right _ _ (by omega), q, Nat.sub_self, drop_cons (show i < A.1.length by omega), List.set_cons_zero, List.take_succ_eq_append_getElem h1, List.append_assoc]
      rfl
    simp only [loopN, d14_L3, lt, shr, dlt h1, dlt h2, nlt h2, nlt h3, dge0, Bool.and_self, Bool.and_true, if_true, Int.toNat_natCast, getD_mem h1, es, d14_K2, wr1 (show i < 4611686018427387904 by omega)]
    exact hih
theorem sL_len (z : List WN × Nat) : (sL z).length = (Vw z).length := List.length_map ..
theorem fitN_of {k : Nat} {z : List WN × Nat} (hz : RmN z) (hk : (Vw z).length < k) (hf : ∀ x ∈ Vw z, (Vw x.2.2.2.1).length < k) : FitN k (sL z) := by
  refine ⟨by rw [sL_len]; exact hk, ⟨by rw [sL_len]; exact hz.l.1, by rw [sL_len]; exact hz.l.2⟩, fun y hy => ?_⟩
  obtain ⟨x, hx, rfl⟩ := List.mem_map.1 hy
  have h2 := (hz.d x hx).2
  exact ⟨hf x hx, by show (Vw x.2.2.2.1).length < _; omega⟩
theorem d14_val (k : Nat) (X : WI) (hX : FitI k (sI X)) (z z2 : List WN × Nat) (hz : RmN z) (hk : (Vw z).length < k) (hf : ∀ x ∈ Vw z, (Vw x.2.2.2.1).length < k) (h2 : FitN k (sL z2)) {part : Int} (hp : 1 ≤ part ∧ part ≤ ((sI X).1.length : Int)) :
    d14 k (X, (z, (z2, (part, ())))) = some ((true, ()), ()) := by
  have hb := hz.l.2
  have hzr : RmN ((Vw z).reverse, (Vw z).length) := by
    have e : Vw ((Vw z).reverse, (Vw z).length) = (Vw z).reverse := List.take_of_length_le (by rw [List.length_reverse]; exact Nat.le_refl _)
    refine ⟨by rw [e, List.length_reverse]; exact hz.l, fun x hx => ?_⟩
    rw [e] at hx
    exact hz.d x (List.mem_reverse.1 hx)
  have er : Vw ((Vw z).reverse, (Vw z).length) = (Vw z).reverse := List.take_of_length_le (by rw [List.length_reverse]; exact Nat.le_refl _)
  have hA := fitN_of hzr (by rw [er, List.length_reverse]; exact hk) (fun x hx => hf x (by rw [er] at hx; exact List.mem_reverse.1 hx))
  obtain ⟨r1, a1, a2⟩ := inputs_both hX hA h2 hp
  obtain ⟨r2, b1, b2⟩ := inputs_both hX (fitN_of hz hk hf) h2 hp
  have ew : sL (Vw z, (Vw z).length) = sL z := by unfold sL; rw [vwA]
  have w : IntKind.wrap .i64 (((Vw z).length : Int) - 1) = ((Vw z).length : Int) - 1 := wrI (by omega) (by omega)
  have q1 := d14_L6_ok (d14_K4 k) X z z2 part hz.l (Vw z).length k (Nat.le_refl _) hk
  have e0 : (Vw z).drop (Vw z).length = [] := List.drop_of_length_le (Nat.le_refl _)
  rw [e0] at q1
  have q2 := d14_L3_ok (d14_K1 k) X ((Vw z).reverse, (Vw z).length) ((Vw z).reverse, (Vw z).length) z z2 part r1 (List.length_reverse ..) rfl (by omega) (Vw z).length 0 k (by omega) hk
  rw [List.take_zero, List.nil_append, List.drop_zero] at q2
  simp only [d14, shr, w]
  refine Eq.trans q1 ?_
  simp only [d14_K4_def, shr, sI_eq, sL_eq, a1, Option.bind_some]
  refine Eq.trans q2 ?_
  simp only [d14_K1_def, sI_eq, sL_eq, ew, a2, b1, b2, Option.bind_some, lt, beq_self_eq_true, Bool.and_self, if_true]
/-! ### unchanged -/
theorem eI_refl (a : Int) : eI a a = true := by simp [eI]
theorem eB_refl (a : Bool) : eB a a = true := by simp [eB]
theorem eIS_refl (a : IS) : eIS a a = true := by simp [eIS]
theorem ePC_refl (a : PC) : ePC a a = true := by simp [ePC]
theorem eI2_refl (a : I2) : eI2 a a = true := by simp [eI2]
theorem ePO_refl (a : PO) : ePO a a = true := by simp [ePO]
theorem eSV_refl (a : SV) : eSV a a = true := by simp [eSV]
theorem eCH_refl (a : CH) : eCH a a = true := by simp [eCH, eqs_refl eI_refl]
theorem ePA_refl (a : PA) : ePA a a = true := by
  simp only [ePA, ePl, eOb, eSV_refl, beq_self_eq_true, allEq_refl, eqs_refl eI_refl, eqs_refl eIS_refl, eqs_refl ePC_refl, eqs_refl eI2_refl, eqs_refl eB_refl, Bool.and_self]
theorem eRoads_refl (a : IM) : eRoads a a = true := by
  have : eqs eSP a.1 a.1 = true := eqs_refl (fun p => eSV_refl p.1) _
  simp only [eRoads, this, eqs_refl ePO_refl, eqs_refl eCH_refl, Bool.and_self]
theorem d12_loop (k0 : Nat) {x : IM} (hx : FitI k0 x) : ∀ r i k, i + r = x.1.length → r < k →
    loopN (d12_L2 k0 (fun _ => some ((true, ()), ()))) k ((x, (x, ())), ((i : Int), ())) = some ((true, ()), ()) := by
  have hn := hx.sm.n
  intro r
  induction r with
  | zero =>
    intro i k hi hk
    obtain ⟨k, rfl⟩ : ∃ k', k = k' + 1 := ⟨k - 1, by omega⟩
    simp only [loopN, d12_L2, lt, dnlt (show x.1.length ≤ i by omega), Bool.false_eq_true, if_false]
  | succ r ih =>
    intro i k hi hk
    obtain ⟨k, rfl⟩ : ∃ k', k = k' + 1 := ⟨k - 1, by omega⟩
    have h1 : i < x.1.length := by omega
    have hih := ih (i + 1) k (by omega) (by omega)
    have h31 := d31_val k0 x.1[i] x.1[i] (hx.ps _ (List.getElem_mem h1))
    rw [ePA_refl] at h31
    simp only [loopN, d12_L2, lt, shr, dlt h1, dge0, Bool.and_self, if_true, Int.toNat_natCast, getD_mem h1, h31, Option.bind_some, Bool.not_true, Bool.false_eq_true, if_false, d12_K1, wr1 (show i < 4611686018427387904 by omega)]
    exact hih
theorem d12_val (k : Nat) {x : IM} (hx : FitI k x) : d12 k (x, (x, ())) = some ((true, ()), ()) := by
  have q := d29_val k x x hx.l1 hx.l2 hx.l3 hx.cs
  rw [eRoads_refl] at q
  have := d12_loop k hx x.1.length 0 k (by omega) hx.l1.1
  simp only [d12, q, Option.bind_some, lt, shr, Bool.not_true, Bool.false_eq_true, if_false]
  exact this
end Go.Proofs.Ytledeaknnihlmaa.L
