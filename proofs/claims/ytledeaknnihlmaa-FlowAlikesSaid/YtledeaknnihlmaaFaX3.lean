import Derived.Test.YtledeaknnihlmaaFaX2
namespace Go.Proofs.Ytledeaknnihlmaa.L
open Go Go.Lift
set_option linter.unusedVariables false
set_option linter.unusedSimpArgs false
set_option maxRecDepth 100000

theorem gtm {α : Type} (l : List α) (m : α) : decide ((((l ++ [m]).length : Nat) : Int) > ((l.length : Nat) : Int)) = true := decide_eq_true (by rw [List.length_append, List.length_singleton]; omega)
theorem cut1 {α : Type} (l : List α) (m : α) : decide (l.length + 1 ≤ (l ++ [m]).length) = true := decide_eq_true (by simp)
theorem ltm {α : Type} (l : List α) (m : α) : decide (((l.length : Nat) : Int) < (((l ++ [m]).length : Nat) : Int)) = true := decide_eq_true (by rw [List.length_append, List.length_singleton]; omega)
theorem n77 : ((-77 : Int) != Neg.neg (77 : Int)) = false := rfl
theorem e77 : ((-77 : Int) == Neg.neg (77 : Int)) = true := rfl
theorem ne_self (a : Int) : (a != a) = false := by simp
theorem ff1 : (false == false) = true := rfl
theorem tf1 : (true == false) = false := rfl
theorem ft1 : (false == true) = false := rfl
/-! ### scriptLeft -/
theorem vw_gL (z : List WN × Nat) : Vw (gL z) = (Vw z).map gN := by
  have : (Vw z).length = ((Vw z).map gN).length := (List.length_map ..).symm
  show List.take (Vw z).length ((Vw z).map gN ++ [mkN]) = _
  rw [this, take_mark]
theorem d9_in (X : Unit × (List WN × Nat) × (List WN × Nat) × Int × Unit → Option ((Bool × Unit) × Unit)) (z m : List WN × Nat) {i : Nat} (h1 : i < (Vw z).length) (h2 : i < (Vw m).length) (l : List Int) (hl : Vw (Vw z)[i].2.2.2.1 = l) (hm : Vw (Vw m)[i].2.2.2.1 = l) (hb : l.length < 4611686018427387904) : ∀ r j k, j + r = l.length → r < k →
    loopN (d9_L4 X) k ((), ((j : Int), ((i : Int), (z, (m, (((l.length : Nat) : Int), ())))))) = X ((), (z, (m, ((i : Int), ())))) := by
  intro r
  induction r with
  | zero =>
    intro j k hj hk
    obtain ⟨k, rfl⟩ : ∃ k', k = k' + 1 := ⟨k - 1, by omega⟩
    simp only [loopN, d9_L4, lt, dnlt (show l.length ≤ j by omega), Bool.false_eq_true, if_false]
  | succ r ih =>
    intro j k hj hk
    obtain ⟨k, rfl⟩ : ∃ k', k = k' + 1 := ⟨k - 1, by omega⟩
    have h3 : j < l.length := by omega
    have hih := ih (j + 1) k (by omega) (by omega)
    simp only [loopN, d9_L4, lt, shr, dlt h3, dlt h1, dlt h2, dge0, Bool.and_self, if_true, Int.toNat_natCast, getD_mem h1, getD_mem h2, hl, hm, getD_mem h3, ne_self, Bool.false_eq_true, if_false, d9_K3, wr1 (show j < 4611686018427387904 by omega)]
    exact hih
theorem d9_loop (k0 : Nat) (z : List WN × Nat) (hz : RmN z) (hf : ∀ x ∈ Vw z, (Vw x.2.2.2.1).length < k0) : ∀ r i k, i + r = (Vw z).length → r < k →
    loopN (d9_L5 k0 (fun _ => some ((true, ()), ()))) k ((), ((i : Int), (z, (gL z, ())))) = some ((true, ()), ()) := by
  have hb := hz.l.2
  have hgl : (Vw (gL z)).length = (Vw z).length := by rw [vw_gL, List.length_map]
  intro r
  induction r with
  | zero =>
    intro i k hi hk
    obtain ⟨k, rfl⟩ : ∃ k', k = k' + 1 := ⟨k - 1, by omega⟩
    simp only [loopN, d9_L5, lt, dnlt (show (Vw z).length ≤ i by omega), Bool.false_eq_true, if_false]
  | succ r ih =>
    intro i k hi hk
    obtain ⟨k, rfl⟩ : ∃ k', k = k' + 1 := ⟨k - 1, by omega⟩
    have h1 : i < (Vw z).length := by omega
    have h2 : i < (Vw (gL z)).length := by omega
    have hih := ih (i + 1) k (by omega) (by omega)
    have hr := hz.d _ (List.getElem_mem h1)
    have hkk := hf _ (List.getElem_mem h1)
    have hg : (Vw (gL z))[i] = gN (Vw z)[i] := by simp only [vw_gL, List.getElem_map]
    have hin := fun X => d9_in X z (gL z) h1 h2 (Vw (Vw z)[i].2.2.2.1) rfl (by rw [hg]; exact take_mark _ _) (by have := hr.2; omega) (Vw (Vw z)[i].2.2.2.1).length 0 k0 (by omega) hkk
    have hzi : (Vw z).getD i ((0 : Int), ((0 : Int), ((0 : Int), ((([] : List Int), (0 : Nat)), ())))) = (Vw z)[i] := getD_mem h1
    have hgi : (Vw (gL z)).getD i ((0 : Int), ((0 : Int), ((0 : Int), ((([] : List Int), (0 : Nat)), ())))) = gN (Vw z)[i] := by rw [getD_mem h2, hg]
    generalize (Vw z)[i] = c at hzi hgi hin hr hkk
    have hb8 := hr.2
    have w1 : IntKind.wrap .i64 (((Vw c.2.2.2.1).length : Int) + 1) = (((Vw c.2.2.2.1).length + 1 : Nat) : Int) := wr1 (by omega)
    have e1 : (gN c).1 = c.1 := rfl
    have e2 : (gN c).2.1 = c.2.1 := rfl
    have e3 : (gN c).2.2.1 = c.2.2.1 := rfl
    have e4 : (gN c).2.2.2.1 = (Vw c.2.2.2.1 ++ [-77], (Vw c.2.2.2.1).length) := rfl
    have h0 : ((0 : Int)) = ((0 : Nat) : Int) := rfl
    simp only [loopN, d9_L5, lt, shr, dlt h1, dlt h2, dge0, Bool.and_self, Bool.and_true, Bool.or_true, if_true, Int.toNat_natCast, hzi, hgi, e1, e2, e3, e4, take_mark, ne_self, iteO, Bool.or_self, ff1, Bool.not_true, Bool.false_or, gtm, w1, cut1, take_mark1, ltm, get_mark, n77, Bool.false_eq_true, if_false]
    refine Eq.trans (hin _) ?_
    simp only [d9_K2, d9_K1, wr1 (show i < 4611686018427387904 by omega)]
    exact hih
theorem d9_val (k : Nat) (z : List WN × Nat) (hz : RmN z) (hk : (Vw z).length < k) (hf : ∀ x ∈ Vw z, (Vw x.2.2.2.1).length < k) : d9 k (gL z, (z, ())) = some ((true, ()), ()) := by
  have := d9_loop k z hz hf (Vw z).length 0 k (by omega) hk
  have hb := hz.l.2
  have hl : (Vw z).length = ((Vw z).map gN).length := (List.length_map ..).symm
  have w1 : IntKind.wrap .i64 (((Vw z).length : Int) + 1) = (((Vw z).length + 1 : Nat) : Int) := wr1 (by omega)
  have e1 : (gL z).1 = (Vw z).map gN ++ [mkN] := rfl
  have c1 : decide ((Vw z).length + 1 ≤ ((Vw z).map gN ++ [mkN]).length) = true := by rw [hl]; exact cut1 _ _
  have c2 : List.take ((Vw z).length + 1) ((Vw z).map gN ++ [mkN]) = (Vw z).map gN ++ [mkN] := by rw [hl]; exact take_mark1 _ _
  have c3 : decide ((((Vw z).length : Nat) : Int) < ((((Vw z).map gN ++ [mkN]).length : Nat) : Int)) = true := by rw [hl]; exact ltm _ _
  have c4 : ((Vw z).map gN ++ [mkN]).getD (Vw z).length ((0 : Int), ((0 : Int), ((0 : Int), ((([] : List Int), (0 : Nat)), ())))) = mkN := by rw [hl]; exact get_mark _ _ _
  simp only [d9, lt, shr, w1, e1, c1, c2, c3, c4, dge0, Int.toNat_natCast, Bool.and_self, if_true, n77, Bool.false_eq_true, if_false]
  exact this
/-! ### marks -/
theorem d34_val (k : Nat) (p : WP) (hr : RmP p) : d34 k (gP p, ()) = some ((true, ()), ()) := by
  have w1 := wr1 (show (Vw p.2.2.2.1).length < 4611686018427387904 by have := hr.i.2; omega)
  have w2 := wr1 (show (Vw p.2.2.2.2.1).length < 4611686018427387904 by have := hr.c.2; omega)
  have w3 := wr1 (show (Vw p.2.2.2.2.2.1).length < 4611686018427387904 by have := hr.r.2; omega)
  have w4 := wr1 (show (Vw p.2.2.2.2.2.2.2.2.1).length < 4611686018427387904 by have := hr.s.2; omega)
  have w5 := wr1 (show (Vw p.2.2.2.2.2.2.2.2.2.1).length < 4611686018427387904 by have := hr.e.2; omega)
  have w6 := wr1 (show (Vw p.2.2.2.2.2.2.2.2.2.2.1).length < 4611686018427387904 by have := hr.b.2; omega)
  unfold gP
  generalize Vw p.2.2.2.1 = l1 at w1
  generalize Vw p.2.2.2.2.1 = l2 at w2
  generalize Vw p.2.2.2.2.2.1 = l3 at w3
  generalize Vw p.2.2.2.2.2.2.2.2.1 = l4 at w4
  generalize Vw p.2.2.2.2.2.2.2.2.2.1 = l5 at w5
  generalize Vw p.2.2.2.2.2.2.2.2.2.2.1 = l6 at w6
  simp only [d34, lt, take_mark, gtm, w1, w2, w3, w4, w5, w6, ff1, iteA, iteO, Bool.and_self, Bool.and_true, Bool.or_self, Bool.not_true, Bool.false_or, Bool.or_true, Bool.false_eq_true, if_false, if_true, dge0, Int.toNat_natCast, cut1, take_mark1, ltm, get_mark, n77, e77, beq_self_eq_true]
theorem d13_ploop (X : (WI × Unit) × Unit → Option ((Bool × Unit) × Unit)) (k0 : Nat) (x : WI) (hx : RmI x) : ∀ r i k, i + r = (Vw x.1).length → r < k →
    loopN (d13_L6 k0 X) k ((gI x, ()), ((i : Int), ())) = X ((gI x, ()), ()) := by
  have hb := hx.p.2
  have hv : Vw (gI x).1 = (Vw x.1).map gP := by
    have : (Vw x.1).length = ((Vw x.1).map gP).length := (List.length_map ..).symm
    show List.take (Vw x.1).length ((Vw x.1).map gP ++ [mkP]) = _
    rw [this, take_mark]
  have hgl : (Vw (gI x).1).length = (Vw x.1).length := by rw [hv, List.length_map]
  intro r
  induction r with
  | zero =>
    intro i k hi hk
    obtain ⟨k, rfl⟩ : ∃ k', k = k' + 1 := ⟨k - 1, by omega⟩
    simp only [loopN, d13_L6, lt, dnlt (show (Vw (gI x).1).length ≤ i by omega), Bool.false_eq_true, if_false]
  | succ r ih =>
    intro i k hi hk
    obtain ⟨k, rfl⟩ : ∃ k', k = k' + 1 := ⟨k - 1, by omega⟩
    have h1 : i < (Vw x.1).length := by omega
    have h2 : i < (Vw (gI x).1).length := by omega
    have hih := ih (i + 1) k (by omega) (by omega)
    have hg : (Vw (gI x).1)[i] = gP (Vw x.1)[i] := by simp only [hv, List.getElem_map]
    have h34 := d34_val k0 (Vw x.1)[i] (hx.ps _ (List.getElem_mem h1))
    rw [← hg] at h34
    simp only [loopN, d13_L6, lt, shr, dlt h2, dge0, Bool.and_self, if_true, Int.toNat_natCast, getD_mem h2, h34, Option.bind_some, Bool.not_true, Bool.false_eq_true, if_false, d13_K5, wr1 (show i < 4611686018427387904 by omega)]
    exact hih
theorem d13_cloop (X : (WI × Unit) × Unit → Option ((Bool × Unit) × Unit)) (x : WI) (hx : RmI x) : ∀ r i k, i + r = (Vw x.2.2.1).length → r < k →
    loopN (d13_L3 X) k ((gI x, ()), ((i : Int), ())) = X ((gI x, ()), ()) := by
  have hb := hx.c.2
  have hv : Vw (gI x).2.2.1 = (Vw x.2.2.1).map gC := by
    have : (Vw x.2.2.1).length = ((Vw x.2.2.1).map gC).length := (List.length_map ..).symm
    show List.take (Vw x.2.2.1).length ((Vw x.2.2.1).map gC ++ [mkC]) = _
    rw [this, take_mark]
  have hgl : (Vw (gI x).2.2.1).length = (Vw x.2.2.1).length := by rw [hv, List.length_map]
  intro r
  induction r with
  | zero =>
    intro i k hi hk
    obtain ⟨k, rfl⟩ : ∃ k', k = k' + 1 := ⟨k - 1, by omega⟩
    simp only [loopN, d13_L3, lt, dnlt (show (Vw (gI x).2.2.1).length ≤ i by omega), Bool.false_eq_true, if_false]
  | succ r ih =>
    intro i k hi hk
    obtain ⟨k, rfl⟩ : ∃ k', k = k' + 1 := ⟨k - 1, by omega⟩
    have h1 : i < (Vw x.2.2.1).length := by omega
    have h2 : i < (Vw (gI x).2.2.1).length := by omega
    have hih := ih (i + 1) k (by omega) (by omega)
    have hg : (Vw (gI x).2.2.1)[i] = gC (Vw x.2.2.1)[i] := by simp only [hv, List.getElem_map]
    have hr := hx.cs _ (List.getElem_mem h1)
    have hgi : (Vw (gI x).2.2.1).getD i ((0 : Int), ((0 : Int), ((([] : List Int), (0 : Nat)), ((0 : Int), ((0 : Int), ()))))) = gC (Vw x.2.2.1)[i] := by rw [getD_mem h2, hg]
    generalize (Vw x.2.2.1)[i] = c at hgi hr
    have w1 := wr1 (show (Vw c.2.2.1).length < 4611686018427387904 by have := hr.2; omega)
    have e4 : (gC c).2.2.1 = (Vw c.2.2.1 ++ [-77], (Vw c.2.2.1).length) := rfl
    simp only [loopN, d13_L3, lt, shr, dlt h2, dge0, Bool.and_self, Bool.and_true, Bool.or_true, if_true, Int.toNat_natCast, hgi, e4, take_mark, ff1, Bool.not_true, Bool.false_or, iteO, Bool.or_self, gtm, w1, cut1, take_mark1, ltm, get_mark, n77, Bool.false_eq_true, if_false, d13_K2, wr1 (show i < 4611686018427387904 by omega)]
    exact hih
theorem d13_val (k : Nat) (x : WI) (hx : RmI x) (h1 : (Vw x.1).length < k) (h2 : (Vw x.2.2.1).length < k) : d13 k (gI x, ()) = some ((true, ()), ()) := by
  have q1 := d13_ploop (d13_K4 k) k x hx (Vw x.1).length 0 k (by omega) h1
  have q2 := d13_cloop d13_K1 x hx (Vw x.2.2.1).length 0 k (by omega) h2
  simp only [d13, shr]
  refine Eq.trans q1 ?_
  simp only [d13_K4, shr]
  refine Eq.trans q2 ?_
  have a1 := wr1 (show (Vw x.1).length < 4611686018427387904 by have := hx.p.2; omega)
  have a2 := wr1 (show (Vw x.2.1).length < 4611686018427387904 by have := hx.q.2; omega)
  have a3 := wr1 (show (Vw x.2.2.1).length < 4611686018427387904 by have := hx.c.2; omega)
  have l1 : (Vw x.1).length = ((Vw x.1).map gP).length := (List.length_map ..).symm
  have l3 : (Vw x.2.2.1).length = ((Vw x.2.2.1).map gC).length := (List.length_map ..).symm
  unfold gI
  rw [l1] at a1 ⊢
  rw [l3] at a3 ⊢
  generalize (Vw x.1).map gP = m1 at a1
  generalize Vw x.2.1 = m2 at a2
  generalize (Vw x.2.2.1).map gC = m3 at a3
  simp only [d13_K1, lt, take_mark, a1, a2, a3, ff1, iteA, iteO, Bool.and_self, Bool.and_true, Bool.or_self, Bool.not_true, Bool.false_or, Bool.or_true, Bool.false_eq_true, if_false, if_true, dge0, Int.toNat_natCast, cut1, take_mark1, ltm, get_mark, n77, e77, beq_self_eq_true]
/-! ### further -/
def fQ (p : PO) : PO := (IntKind.wrap .i64 (IntKind.wrap .i64 (((BitVec.toNat ((BitVec.ofInt (Go.IntKind.bits Go.IntKind.i64) p.1) &&& (BitVec.ofInt (Go.IntKind.bits Go.IntKind.i64) (31 : Int)))) : Nat) : Int) + 1), p.2)
theorem d35_loop (z : List PO × Nat) (hz : Rm (Vw z).length 48) : ∀ m i k, i + m = (Vw z).length → m < k →
    loopN (d35_L3 d35_K1) k (((((Vw z).take i).map fQ, ((Vw z).take i).length), ()), ((i : Int), (z, ()))) = some (((((Vw z).map fQ, (Vw z).length)), ()), ()) := by
  have hb := hz.2
  intro m
  induction m with
  | zero =>
    intro i k hi hk'
    obtain ⟨k, rfl⟩ : ∃ k', k = k' + 1 := ⟨k - 1, by omega⟩
    have h0 : (Vw z).take i = Vw z := List.take_of_length_le (by omega)
    rw [h0]
    simp only [loopN, d35_L3, lt, dnlt (show (Vw z).length ≤ i by omega), Bool.false_eq_true, if_false, d35_K1]
  | succ m ih =>
    intro i k hi hk'
    obtain ⟨k, rfl⟩ : ∃ k', k = k' + 1 := ⟨k - 1, by omega⟩
    have h1 : i < (Vw z).length := by omega
    have hih := ih (i + 1) k (by omega) (by omega)
    generalize hc : (Vw z)[i] = c at hih
    have hlt : ((Vw z).take i).length = i := by rw [List.length_take]; omega
    have hl : (((Vw z).take i).map fQ).length = i := by rw [List.length_map, hlt]
    have hfit : appFits (((Vw z).take i).map fQ).length 1 48 = true := by rw [hl]; exact (hz.mono (by omega)).fit1
    have hd : decide (((Vw z).take i).length = (((Vw z).take i).map fQ).length) = true := decide_eq_true (by rw [hl, hlt])
    have et : ((Vw z).take i).map fQ ++ fQ c :: [] = ((Vw z).take (i + 1)).map fQ := by
      rw [List.take_succ_eq_append_getElem h1, List.map_append, ← hc]; rfl
    have el : (((Vw z).take (i + 1)).map fQ).length = ((Vw z).take (i + 1)).length := List.length_map ..
    have eg : ((IntKind.wrap .i64 (IntKind.wrap .i64 (((BitVec.toNat ((BitVec.ofInt (Go.IntKind.bits Go.IntKind.i64) c.1) &&& (BitVec.ofInt (Go.IntKind.bits Go.IntKind.i64) (31 : Int)))) : Nat) : Int) + 1), c.2) : PO) = fQ c := rfl
    simp only [loopN, d35_L3, lt, shr, dlt h1, dge0, Bool.and_self, if_true, Int.toNat_natCast, getD_mem h1, hc, List.length_cons, List.length_nil, Nat.zero_add, hd, hfit, d35_K2, wr1 (show i < 4611686018427387904 by omega), eg, et, el]
    exact hih
theorem d35_val (k : Nat) (z : List PO × Nat) (hz : Rm (Vw z).length 48) (hk : (Vw z).length < k) : d35 k (z, ()) = some ((((Vw z).map fQ, (Vw z).length), ()), ()) := by
  have := d35_loop z hz (Vw z).length 0 k (by omega) hk
  rw [List.take_zero, List.map_nil, List.length_nil] at this
  simp only [d35, shr]
  exact this
end Go.Proofs.Ytledeaknnihlmaa.L
