import Derived.Test.YtledeaknnihlmaaFaM7
namespace Go.Proofs.Ytledeaknnihlmaa.L
open Go Go.Lift
set_option linter.unusedVariables false
set_option linter.unusedSimpArgs false
set_option maxRecDepth 100000

/-! ### Index, Contains -/
theorem ng1 : decide ((Neg.neg (1 : Int)) ≥ (0 : Int)) = false := rfl
theorem pg0 (i : Nat) : decide ((i : Int) ≥ (0 : Int)) = true := decide_eq_true (by omega)
theorem d58_loop (l : List Int) (v : Int) (hb : l.length < 4611686018427387904) : ∀ r i k, i + r = l.length → r < k →
    ∃ z, loopN (d58_L2 (fun _ => some ((Neg.neg (1 : Int), ()), ()))) k ((), ((i : Int), (l, (v, (((l.length : Nat) : Int), ()))))) = some ((z, ()), ()) ∧ decide (z ≥ (0 : Int)) = (l.drop i).any (fun p => v == p) := by
  intro r
  induction r with
  | zero =>
    intro i k hi hk
    obtain ⟨k, rfl⟩ : ∃ k', k = k' + 1 := ⟨k - 1, by omega⟩
    refine ⟨Neg.neg (1 : Int), ?_, ?_⟩
    · simp only [loopN, d58_L2, lt, dnlt (show l.length ≤ i by omega), Bool.false_eq_true, if_false]
    · rw [List.drop_of_length_le (by omega)]; rfl
  | succ r ih =>
    intro i k hi hk
    obtain ⟨k, rfl⟩ : ∃ k', k = k' + 1 := ⟨k - 1, by omega⟩
    have h1 : i < l.length := by omega
    obtain ⟨z, z1, z2⟩ := ih (i + 1) k (by omega) (by omega)
    rw [drop_cons h1, List.any_cons]
    cases hv : (v == l[i]) with
    | true =>
      refine ⟨(i : Int), ?_, by rw [pg0, Bool.true_or]⟩
      simp only [loopN, d58_L2, lt, shr, dlt h1, dge0, Bool.and_self, if_true, Int.toNat_natCast, getD_mem h1, hv]
    | false =>
      refine ⟨z, ?_, by rw [z2, Bool.false_or]⟩
      simp only [loopN, d58_L2, lt, shr, dlt h1, dge0, Bool.and_self, if_true, Int.toNat_natCast, getD_mem h1, hv, Bool.false_eq_true, if_false, d58_K1, wr1 (show i < 4611686018427387904 by omega)]
      exact z1
theorem d46_val (k : Nat) (l : List Int) (v : Int) (h : LB k l.length) : d46 k (l, (v, ())) = some ((l.any (fun p => v == p), ()), ()) := by
  obtain ⟨z, z1, z2⟩ := d58_loop l v h.2 l.length 0 k (by omega) h.1
  have e : d58 k (l, (v, ())) = some ((z, ()), ()) := z1
  simp only [d46, e, Option.bind_some, z2, List.drop_zero]
/-- Some of these lead there. -/
def inter (to l : List Int) : Bool := to.any fun p => l.any fun q => p == q
theorem d57_loop (k0 : Nat) (l to : List Int) (hl : LB k0 l.length) (hb : to.length < 4611686018427387904) : ∀ r i k, i + r = to.length → r < k →
    ∃ z, loopN (d57_L2 k0 (fun _ => some ((Neg.neg (1 : Int), ()), ()))) k ((), ((i : Int), (to, ((l, ()), (((to.length : Nat) : Int), ()))))) = some ((z, ()), ()) ∧ decide (z ≥ (0 : Int)) = inter (to.drop i) l := by
  intro r
  induction r with
  | zero =>
    intro i k hi hk
    obtain ⟨k, rfl⟩ : ∃ k', k = k' + 1 := ⟨k - 1, by omega⟩
    refine ⟨Neg.neg (1 : Int), ?_, ?_⟩
    · simp only [loopN, d57_L2, lt, dnlt (show to.length ≤ i by omega), Bool.false_eq_true, if_false]
    · rw [List.drop_of_length_le (by omega)]; rfl
  | succ r ih =>
    intro i k hi hk
    obtain ⟨k, rfl⟩ : ∃ k', k = k' + 1 := ⟨k - 1, by omega⟩
    have h1 : i < to.length := by omega
    obtain ⟨z, z1, z2⟩ := ih (i + 1) k (by omega) (by omega)
    have h46 : d45 k0 (to[i], (l, ())) = some ((l.any (fun q => to[i] == q), ()), ()) := by
      simp only [d45, d46_val k0 l _ hl, Option.bind_some]
    have hin : inter (to.drop i) l = (l.any (fun q => to[i] == q) || inter (to.drop (i + 1)) l) := by
      unfold inter
      rw [drop_cons h1, List.any_cons]
    rw [hin]
    cases hv : l.any (fun q => to[i] == q) with
    | true =>
      rw [hv] at h46
      refine ⟨(i : Int), ?_, by rw [pg0, Bool.true_or]⟩
      simp only [loopN, d57_L2, lt, shr, dlt h1, dge0, Bool.and_self, if_true, Int.toNat_natCast, getD_mem h1, h46, Option.bind_some]
    | false =>
      rw [hv] at h46
      refine ⟨z, ?_, by rw [z2, Bool.false_or]⟩
      simp only [loopN, d57_L2, lt, shr, dlt h1, dge0, Bool.and_self, if_true, Int.toNat_natCast, getD_mem h1, h46, Option.bind_some, Bool.false_eq_true, if_false, d57_K1, wr1 (show i < 4611686018427387904 by omega)]
      exact z1
theorem d44_val (k : Nat) (l to : List Int) (hl : LB k l.length) (h : LB k to.length) : d44 k (to, ((l, ()), ())) = some ((inter to l, ()), ()) := by
  obtain ⟨z, z1, z2⟩ := d57_loop k l to hl h.2 to.length 0 k (by omega) h.1
  have e : d57 k (to, ((l, ()), ())) = some ((z, ()), ()) := z1
  simp only [d44, e, Option.bind_some, z2, List.drop_zero]
/-! ### reaching -/
/-- What an input leads to. -/
def toI (im : IM) (x : IN) : List Int := if (x.2.1 == (2 : Int)) = true then [x.2.2.1] else if (x.2.1 == (1 : Int)) = true then (if 1 ≤ x.2.2.1 ∧ x.2.2.1 ≤ (im.2.2.1.length : Int) then toL im (im.2.2.1.getD (Int.toNat (x.2.2.1 - 1)) dCH) else []) else []
def rchF (im : IM) (l : List Int) (x : IN) : Bool := inter (toI im x) l
/-- Room for what is appended. -/
def Rn (n : Nat) : Prop := (n + 1) * 48 ≤ 140737488355328 ∧ n + 1 ≤ 4611686018427387904
theorem Rn.fit {n m : Nat} (h : Rn n) (hm : m ≤ n) : appFits m 1 48 = true := fit1 (Nat.le_trans (Nat.mul_le_mul_right _ (by omega)) h.1) (by have := h.2; omega)
theorem toI_len {im : IM} (h : Small im) (x : IN) : (toI im x).length ≤ 71 := by
  unfold toI
  split
  · simp
  · split
    · split
      · rename_i q
        refine Nat.le_trans (toL_len _ _) ?_
        have hm : im.2.2.1.getD (Int.toNat (x.2.2.1 - 1)) dCH ∈ im.2.2.1 := by rw [getD_mem (show Int.toNat (x.2.2.1 - 1) < im.2.2.1.length by omega)]; exact List.getElem_mem _
        have := h.t _ hm
        omega
      · simp
    · simp
theorem d43_of {k : Nat} (hk : 70 < k) {im : IM} (h : Small im) (t : Int) : ∃ f e, d43 k (im, (t, ())) = some ((f, ((if 1 ≤ t ∧ t ≤ (im.2.2.1.length : Int) then toL im (im.2.2.1.getD (Int.toNat (t - 1)) dCH) else []), (e, ()))), ()) := by
  by_cases ht : 1 ≤ t ∧ t ≤ (im.2.2.1.length : Int)
  · rw [if_pos ht]
    obtain ⟨j, rfl⟩ : ∃ j : Nat, t = ((j + 1 : Nat) : Int) := ⟨(t - 1).toNat, by omega⟩
    have hj : j < im.2.2.1.length := by omega
    have e : Int.toNat (((j + 1 : Nat) : Int) - 1) = j := by omega
    rw [e, getD_mem hj]
    exact ⟨_, _, parts_val im h.p h.c h.t j hj k hk⟩
  · rw [if_neg ht]
    exact ⟨_, _, parts_none im k t ht⟩
theorem d28_loop (k0 : Nat) (hk0 : 71 < k0) {im : IM} (h : Small im) (l : List Int) (hl : l.length ≤ 40) (ins : List IN) (hr : Rn ins.length) : ∀ r i k, i + r = ins.length → r < k →
    loopN (d28_L7 k0 d28_K1) k ((((ins.take i).filter (rchF im l)), (im, ())), ((i : Int), (l, (ins, (((ins.length : Nat) : Int), ()))))) = some ((ins.filter (rchF im l), ()), ()) := by
  have hb := hr.2
  intro r
  induction r with
  | zero =>
    intro i k hi hk
    obtain ⟨k, rfl⟩ : ∃ k', k = k' + 1 := ⟨k - 1, by omega⟩
    rw [List.take_of_length_le (by omega)]
    simp only [loopN, d28_L7, lt, dnlt (show ins.length ≤ i by omega), Bool.false_eq_true, if_false, d28_K1]
  | succ r ih =>
    intro i k hi hk
    obtain ⟨k, rfl⟩ : ∃ k', k = k' + 1 := ⟨k - 1, by omega⟩
    have h1 : i < ins.length := by omega
    have hih := ih (i + 1) k (by omega) (by omega)
    have et : (ins.take (i + 1)).filter (rchF im l) = (ins.take i).filter (rchF im l) ++ (if rchF im l ins[i] = true then [ins[i]] else []) := by
      rw [List.take_succ_eq_append_getElem h1, List.filter_append]
      congr 1
      by_cases q : rchF im l ins[i] = true
      · rw [if_pos q, List.filter_cons_of_pos q]; rfl
      · rw [if_neg q, List.filter_cons_of_neg q]; rfl
    rw [et] at hih
    have hg : ins.getD i ((0 : Int), ((0 : Int), ((0 : Int), (([] : List Int), ())))) = ins[i] := getD_mem h1
    generalize ins[i] = x at hih hg
    have hle : ((ins.take i).filter (rchF im l)).length ≤ ins.length := Nat.le_trans (List.length_filter_le _ _) (by rw [List.length_take]; omega)
    have hf := hr.fit hle
    have h44 : d44 k0 (toI im x, ((l, ()), ())) = some ((rchF im l x, ()), ()) := d44_val k0 l _ ⟨by omega, by omega⟩ (by have := toI_len h x; exact ⟨by omega, by omega⟩)
    have fin : d28_K4 k0 (d28_K2 (loopN (d28_L7 k0 d28_K1) k)) ((im, (x, ((ins.take i).filter (rchF im l), (toI im x, ())))), (l, (ins, (((ins.length : Nat) : Int), ((i : Int), ()))))) = some ((ins.filter (rchF im l), ()), ()) := by
      cases hv : rchF im l x with
      | true =>
        rw [hv] at h44
        rw [hv, if_pos rfl] at hih
        simp only [d28_K4, h44, Option.bind_some, lt, shr, if_true, List.length_cons, List.length_nil, Nat.zero_add, hf, d28_K3, d28_K2, wr1 (show i < 4611686018427387904 by omega)]
        exact hih
      | false =>
        rw [hv] at h44
        rw [hv, if_neg (by decide), List.append_nil] at hih
        simp only [d28_K4, h44, Option.bind_some, lt, shr, Bool.false_eq_true, if_false, d28_K3, d28_K2, wr1 (show i < 4611686018427387904 by omega)]
        exact hih
    rw [← fin]
    cases b2 : (x.2.1 == (2 : Int)) with
    | true =>
      have et : toI im x = [x.2.2.1] := if_pos b2
      simp only [loopN, d28_L7, lt, shr, dlt h1, dge0, Bool.and_self, if_true, Int.toNat_natCast, hg, b2, d28_K5, et]
    | false =>
      cases b1 : (x.2.1 == (1 : Int)) with
      | true =>
        obtain ⟨f, e, h43⟩ := d43_of (k := k0) (by omega) h x.2.2.1
        have et : toI im x = (if 1 ≤ x.2.2.1 ∧ x.2.2.1 ≤ (im.2.2.1.length : Int) then toL im (im.2.2.1.getD (Int.toNat (x.2.2.1 - 1)) dCH) else []) := by unfold toI; rw [if_neg (by rw [b2]; decide), if_pos b1]
        rw [← et] at h43
        simp only [loopN, d28_L7, lt, shr, dlt h1, dge0, Bool.and_self, if_true, Int.toNat_natCast, hg, b2, b1, Bool.false_eq_true, if_false, h43, Option.bind_some, d28_K6, d28_K5]
      | false =>
        have et : toI im x = [] := by unfold toI; rw [if_neg (by rw [b2]; decide), if_neg (by rw [b1]; decide)]
        simp only [loopN, d28_L7, lt, shr, dlt h1, dge0, Bool.and_self, if_true, Int.toNat_natCast, hg, b2, b1, Bool.false_eq_true, if_false, d28_K6, d28_K5, et]
theorem reaching_val (k : Nat) (hk : 71 < k) {im : IM} (h : Small im) (l : List Int) (hl : l.length ≤ 40) (ins : List IN) (hr : Rn ins.length) (hki : ins.length < k) : d28 k (im, (ins, (l, ()))) = some ((ins.filter (rchF im l), ()), ()) := by
  have := d28_loop k hk h l hl ins hr ins.length 0 k (by omega) hki
  simp only [d28, shr]
  exact this
end Go.Proofs.Ytledeaknnihlmaa.L
