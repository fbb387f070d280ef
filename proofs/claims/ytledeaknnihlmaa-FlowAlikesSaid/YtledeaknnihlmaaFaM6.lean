import Derived.Test.YtledeaknnihlmaaFaM5
namespace Go.Proofs.Ytledeaknnihlmaa.L
open Go Go.Lift
set_option linter.unusedVariables false
set_option linter.unusedSimpArgs false
set_option maxRecDepth 100000

theorem eqlT {n m : Nat} (h : n = m) : (((n : Nat) : Int) == ((m : Nat) : Int)) = true := by subst h; simp
theorem andSelf (a b : Bool) : (a && (a && b)) = (a && b) := by cases a <;> rfl
/-- A length that a loop can run. -/
def LB (k n : Nat) : Prop := n < k ∧ n < 4611686018427387904
/-! ### channels -/
def eCH (x y : CH) : Bool := (((x.1 == y.1) && (x.2.1 == y.2.1)) && (x.2.2.2.1 == y.2.2.2.1)) && (x.2.2.2.2.1 == y.2.2.2.2.1) && eqs eI x.2.2.1 y.2.2.1
theorem d21_val (k : Nat) (x y : CH) (h : LB k x.2.2.1.length) : d21 k (x, (y, ())) = some ((eCH x y, ()), ()) := by
  simp only [d21, lt, iteA, d22_val k _ _ h.1 h.2, guA, Option.bind_some, andSelf]
  rfl
theorem d47_val (k : Nat) (x y : CH) (h : LB k x.2.2.1.length) : d47 k (x, (y, ())) = some ((eCH x y, ()), ()) := by
  by_cases hl : x.2.2.1.length = y.2.2.1.length
  · have := d47_l2 (fun _ => some ((true, ()), ())) x y hl h.2 x.2.2.1.length 0 k (by omega) h.1
    simp only [List.drop_zero] at this
    simp only [d47, lt, shr, iteO, bneN, eqlT hl, Bool.not_true, Bool.or_false]
    rw [show (0 : Int) = ((0 : Nat) : Int) from rfl, this]
    unfold eCH
    generalize (x.1 == y.1) = b1
    generalize (x.2.1 == y.2.1) = b2
    generalize (x.2.2.2.1 == y.2.2.2.1) = b3
    generalize (x.2.2.2.2.1 == y.2.2.2.2.1) = b4
    rw [show (eqs (fun x y => eI x y) x.2.2.1 y.2.2.1) = eqs eI x.2.2.1 y.2.2.1 from rfl]
    generalize eqs eI x.2.2.1 y.2.2.1 = b5
    cases b1 <;> cases b2 <;> cases b3 <;> cases b4 <;> cases b5 <;> rfl
  · have e : eCH x y = false := by unfold eCH; rw [eqs_ne hl, Bool.and_false]
    rw [e]
    simp only [d47, lt, shr, iteO, nel hl, Bool.or_true, if_true]
theorem d20_loop (k0 : Nat) (l m : List CH) (hlm : l.length = m.length) (hb : l.length < 4611686018427387904) (hf : ∀ c ∈ l, LB k0 c.2.2.1.length) : ∀ r i k, i + r = l.length → r < k →
    loopN (d20_L2 k0 (fun _ => some ((true, ()), ()))) k ((), ((i : Int), ((), (m, (l, (((l.length : Nat) : Int), ())))))) = some ((eqs eCH (l.drop i) (m.drop i), ()), ()) := by
  intro r
  induction r with
  | zero =>
    intro i k hi hk
    obtain ⟨k, rfl⟩ : ∃ k', k = k' + 1 := ⟨k - 1, by omega⟩
    rw [eqs_end (by omega) (by omega)]
    simp only [loopN, d20_L2, lt, dnlt (show l.length ≤ i by omega), Bool.false_eq_true, if_false]
  | succ r ih =>
    intro i k hi hk
    obtain ⟨k, rfl⟩ : ∃ k', k = k' + 1 := ⟨k - 1, by omega⟩
    have h1 : i < l.length := by omega
    have h2 : i < m.length := by omega
    have hih := ih (i + 1) k (by omega) (by omega)
    have hv' := d21_val k0 l[i] m[i] (hf _ (List.getElem_mem h1))
    rw [eqs_drop h1 h2]
    cases hv : eCH l[i] m[i] with
    | true =>
      rw [hv] at hv'
      simp only [loopN, d20_L2, lt, shr, dlt h1, dlt h2, dge0, Bool.and_self, if_true, Int.toNat_natCast, getD_mem h1, getD_mem h2, hv', Option.bind_some, Bool.not_true, Bool.true_and, Bool.false_eq_true, if_false, d20_K1, wr1 (show i < 4611686018427387904 by omega)]
      exact hih
    | false =>
      rw [hv] at hv'
      simp only [loopN, d20_L2, lt, shr, dlt h1, dlt h2, dge0, Bool.and_self, if_true, Int.toNat_natCast, getD_mem h1, getD_mem h2, hv', Option.bind_some, Bool.not_false, Bool.false_and]
theorem d20_val (k : Nat) (l m : List CH) (h : LB k l.length) (hf : ∀ c ∈ l, LB k c.2.2.1.length) : d20 k (l, (m, ((), ()))) = some ((eqs eCH l m, ()), ()) := by
  by_cases he : l.length = m.length
  · have := d20_loop k l m he h.2 hf l.length 0 k (by omega) h.1
    simp only [d20, lt, shr, eql' he, Bool.false_eq_true, if_false]
    exact this
  · rw [eqs_ne he]
    simp only [d20, lt, shr, nel he, if_true]
/-! ### servers -/
def eSP (x y : PA) : Bool := eSV x.1 y.1
theorem d18_loop (k0 : Nat) (l m : List PA) (hlm : l.length = m.length) (hb : l.length < 4611686018427387904) : ∀ r i k, i + r = l.length → r < k →
    loopN (d18_L2 k0 (fun _ => some ((true, ()), ()))) k ((), ((i : Int), ((), (m, (l, (((l.length : Nat) : Int), ())))))) = some ((eqs eSP (l.drop i) (m.drop i), ()), ()) := by
  intro r
  induction r with
  | zero =>
    intro i k hi hk
    obtain ⟨k, rfl⟩ : ∃ k', k = k' + 1 := ⟨k - 1, by omega⟩
    rw [eqs_end (by omega) (by omega)]
    simp only [loopN, d18_L2, lt, dnlt (show l.length ≤ i by omega), Bool.false_eq_true, if_false]
  | succ r ih =>
    intro i k hi hk
    obtain ⟨k, rfl⟩ : ∃ k', k = k' + 1 := ⟨k - 1, by omega⟩
    have h1 : i < l.length := by omega
    have h2 : i < m.length := by omega
    have hih := ih (i + 1) k (by omega) (by omega)
    rw [eqs_drop h1 h2]
    cases hv : eSP l[i] m[i] with
    | true =>
      unfold eSP eSV at hv
      simp only [loopN, d18_L2, lt, shr, dlt h1, dlt h2, dge0, Bool.and_self, if_true, Int.toNat_natCast, getD_mem h1, getD_mem h2, d19, hv, Option.bind_some, Bool.not_true, Bool.true_and, Bool.false_eq_true, if_false, d18_K1, wr1 (show i < 4611686018427387904 by omega)]
      exact hih
    | false =>
      unfold eSP eSV at hv
      simp only [loopN, d18_L2, lt, shr, dlt h1, dlt h2, dge0, Bool.and_self, if_true, Int.toNat_natCast, getD_mem h1, getD_mem h2, d19, hv, Option.bind_some, Bool.not_false, Bool.false_and]
theorem d18_val (k : Nat) (l m : List PA) (h : LB k l.length) : d18 k (l, (m, ((), ()))) = some ((eqs eSP l m, ()), ()) := by
  by_cases he : l.length = m.length
  · have := d18_loop k l m he h.2 l.length 0 k (by omega) h.1
    simp only [d18, lt, shr, eql' he, Bool.false_eq_true, if_false]
    exact this
  · rw [eqs_ne he]
    simp only [d18, lt, shr, nel he, if_true]
/-! ### SameRoads -/
def eRoads (x y : IM) : Bool := eqs eSP x.1 y.1 && (eqs ePO x.2.1 y.2.1 && eqs eCH x.2.2.1 y.2.2.1)
theorem d29_l2 (k0 : Nat) (p q : IM) (hlm : p.2.2.1.length = q.2.2.1.length) (hb : p.2.2.1.length < 4611686018427387904) (hf : ∀ c ∈ p.2.2.1, LB k0 c.2.2.1.length) : ∀ r i k, i + r = p.2.2.1.length → r < k →
    loopN (d29_L2 k0 (fun _ => some ((true, ()), ()))) k ((q, (p, ())), ((i : Int), ())) = some ((eqs eCH (p.2.2.1.drop i) (q.2.2.1.drop i), ()), ()) := by
  intro r
  induction r with
  | zero =>
    intro i k hi hk
    obtain ⟨k, rfl⟩ : ∃ k', k = k' + 1 := ⟨k - 1, by omega⟩
    rw [eqs_end (by omega) (by omega)]
    simp only [loopN, d29_L2, lt, dnlt (show p.2.2.1.length ≤ i by omega), Bool.false_eq_true, if_false]
  | succ r ih =>
    intro i k hi hk
    obtain ⟨k, rfl⟩ : ∃ k', k = k' + 1 := ⟨k - 1, by omega⟩
    have h1 : i < p.2.2.1.length := by omega
    have h2 : i < q.2.2.1.length := by omega
    have hih := ih (i + 1) k (by omega) (by omega)
    have hv' := d47_val k0 p.2.2.1[i] q.2.2.1[i] (hf _ (List.getElem_mem h1))
    rw [eqs_drop h1 h2]
    cases hv : eCH p.2.2.1[i] q.2.2.1[i] with
    | true =>
      rw [hv] at hv'
      simp only [loopN, d29_L2, lt, shr, dlt h1, dlt h2, dge0, Bool.and_self, if_true, Int.toNat_natCast, getD_mem h1, getD_mem h2, hv', Option.bind_some, Bool.not_true, Bool.true_and, Bool.false_eq_true, if_false, d29_K1, wr1 (show i < 4611686018427387904 by omega)]
      exact hih
    | false =>
      rw [hv] at hv'
      simp only [loopN, d29_L2, lt, shr, dlt h1, dlt h2, dge0, Bool.and_self, if_true, Int.toNat_natCast, getD_mem h1, getD_mem h2, hv', Option.bind_some, Bool.not_false, Bool.false_and]
theorem d29_val (k : Nat) (x y : IM) (h1 : LB k x.1.length) (h2 : LB k x.2.1.length) (h3 : LB k x.2.2.1.length) (hf : ∀ c ∈ x.2.2.1, LB k c.2.2.1.length) : d29 k (x, (y, ())) = some ((eRoads x y, ()), ()) := by
  by_cases e1 : x.1.length = y.1.length
  · by_cases e2 : x.2.1.length = y.2.1.length
    · by_cases e3 : x.2.2.1.length = y.2.2.1.length
      · have q1 := d29_l8 (d29_K6 k) x y e1 h1.2 x.1.length 0 k (by omega) h1.1
        have q2 := d29_l5 (d29_K3 k) x y e2 h2.2 x.2.1.length 0 k (by omega) h2.1
        have q3 := d29_l2 k x y e3 h3.2 hf x.2.2.1.length 0 k (by omega) h3.1
        simp only [List.drop_zero] at q1 q2 q3
        simp only [d29, lt, shr, eql' e1, eql' e2, eql' e3, iteO, Bool.or_false, Bool.false_eq_true, if_false]
        refine Eq.trans q1 ?_
        have q2' : d29_K6 k ((y, (x, ())), ()) = _ := q2
        have q3' : d29_K3 k ((y, (x, ())), ()) = _ := q3
        rw [q2', q3']
        unfold eRoads
        rw [show eqs (fun x y => eSV x.1 y.1) x.1 y.1 = eqs eSP x.1 y.1 from rfl, show eqs (fun x y => ePO x y) x.2.1 y.2.1 = eqs ePO x.2.1 y.2.1 from rfl]
        cases eqs eSP x.1 y.1 <;> cases eqs ePO x.2.1 y.2.1 <;> simp
      · have e : eRoads x y = false := by unfold eRoads; rw [eqs_ne e3]; simp
        rw [e]
        simp only [d29, lt, shr, nel e3, iteO, Bool.or_true, if_true]
    · have e : eRoads x y = false := by unfold eRoads; rw [eqs_ne e2]; simp
      rw [e]
      simp only [d29, lt, shr, nel e2, iteO, Bool.or_true, Bool.true_or, if_true]
  · have e : eRoads x y = false := by unfold eRoads; rw [eqs_ne e1]; simp
    rw [e]
    simp only [d29, lt, shr, nel e1, iteO, Bool.or_true, Bool.true_or, if_true]
/-! ### partitions -/
/-- The lists of a partition can be run. -/
structure FitP (k : Nat) (p : PA) : Prop where
  i : LB k p.2.2.2.1.length
  c : LB k p.2.2.2.2.1.length
  r : LB k p.2.2.2.2.2.1.length
  s : LB k p.2.2.2.2.2.2.2.2.1.length
  e : LB k p.2.2.2.2.2.2.2.2.2.1.length
  b : LB k p.2.2.2.2.2.2.2.2.2.2.1.length
def ePl (x y : PA) : Bool := eqs eIS x.2.2.2.2.1 y.2.2.2.2.1 && eqs ePC x.2.2.2.2.2.1 y.2.2.2.2.2.1
def eOb (x y : PA) : Bool := eqs eI2 x.2.2.2.2.2.2.2.2.1 y.2.2.2.2.2.2.2.2.1 && (eqs eB x.2.2.2.2.2.2.2.2.2.1 y.2.2.2.2.2.2.2.2.2.1 && eqs eI2 x.2.2.2.2.2.2.2.2.2.2.1 y.2.2.2.2.2.2.2.2.2.2.1)
theorem d50_val (k : Nat) (x y : PA) (h : FitP k x) : d50 k (x, (y, ())) = some ((ePl x y, ()), ()) := by
  by_cases e1 : x.2.2.2.2.1.length = y.2.2.2.2.1.length
  · by_cases e2 : x.2.2.2.2.2.1.length = y.2.2.2.2.2.1.length
    · have q1 := d50_l5 (d50_K3 k) x y e1 h.c.2 _ 0 k (Nat.zero_add _) h.c.1
      have q2 := d50_l2 (fun _ => some ((true, ()), ())) x y e2 h.r.2 _ 0 k (Nat.zero_add _) h.r.1
      simp only [List.drop_zero] at q1 q2
      simp only [d50, lt, shr, eql' e1, eql' e2, iteO, Bool.or_false, Bool.false_eq_true, if_false]
      refine Eq.trans q1 ?_
      have q2' : d50_K3 k ((y, (x, ())), ()) = _ := q2
      rw [q2']
      unfold ePl
      rw [show eqs (fun x y => eIS x y) x.2.2.2.2.1 y.2.2.2.2.1 = eqs eIS x.2.2.2.2.1 y.2.2.2.2.1 from rfl, show eqs (fun x y => ePC x y) x.2.2.2.2.2.1 y.2.2.2.2.2.1 = eqs ePC x.2.2.2.2.2.1 y.2.2.2.2.2.1 from rfl]
      cases eqs eIS x.2.2.2.2.1 y.2.2.2.2.1 <;> cases eqs ePC x.2.2.2.2.2.1 y.2.2.2.2.2.1 <;> rfl
    · have e : ePl x y = false := by unfold ePl; rw [eqs_ne e2]; simp
      rw [e]
      simp only [d50, lt, shr, nel e2, iteO, Bool.or_true, if_true]
  · have e : ePl x y = false := by unfold ePl; rw [eqs_ne e1]; simp
    rw [e]
    simp only [d50, lt, shr, nel e1, iteO, Bool.true_or, if_true]
theorem d51_val (k : Nat) (x y : PA) (h : FitP k x) : d51 k (x, (y, ())) = some ((eOb x y, ()), ()) := by
  by_cases e1 : x.2.2.2.2.2.2.2.2.1.length = y.2.2.2.2.2.2.2.2.1.length
  · by_cases e2 : x.2.2.2.2.2.2.2.2.2.1.length = y.2.2.2.2.2.2.2.2.2.1.length
    · by_cases e3 : x.2.2.2.2.2.2.2.2.2.2.1.length = y.2.2.2.2.2.2.2.2.2.2.1.length
      · have q1 := d51_l8 (d51_K6 k) x y e1 h.s.2 _ 0 k (Nat.zero_add _) h.s.1
        have q2 := d51_l5 (d51_K3 k) x y e2 h.e.2 _ 0 k (Nat.zero_add _) h.e.1
        have q3 := d51_l2 (fun _ => some ((true, ()), ())) x y e3 h.b.2 _ 0 k (Nat.zero_add _) h.b.1
        simp only [List.drop_zero] at q1 q2 q3
        simp only [d51, lt, shr, eql' e1, eql' e2, eql' e3, iteO, Bool.or_false, Bool.false_eq_true, if_false]
        refine Eq.trans q1 ?_
        have q2' : d51_K6 k ((y, (x, ())), ()) = _ := q2
        have q3' : d51_K3 k ((y, (x, ())), ()) = _ := q3
        rw [q2', q3']
        unfold eOb
        rw [show eqs (fun x y => eI2 x y) x.2.2.2.2.2.2.2.2.1 y.2.2.2.2.2.2.2.2.1 = eqs eI2 x.2.2.2.2.2.2.2.2.1 y.2.2.2.2.2.2.2.2.1 from rfl, show eqs (fun x y => eB x y) x.2.2.2.2.2.2.2.2.2.1 y.2.2.2.2.2.2.2.2.2.1 = eqs eB x.2.2.2.2.2.2.2.2.2.1 y.2.2.2.2.2.2.2.2.2.1 from rfl, show eqs (fun x y => eI2 x y) x.2.2.2.2.2.2.2.2.2.2.1 y.2.2.2.2.2.2.2.2.2.2.1 = eqs eI2 x.2.2.2.2.2.2.2.2.2.2.1 y.2.2.2.2.2.2.2.2.2.2.1 from rfl]
        cases eqs eI2 x.2.2.2.2.2.2.2.2.1 y.2.2.2.2.2.2.2.2.1 <;> cases eqs eB x.2.2.2.2.2.2.2.2.2.1 y.2.2.2.2.2.2.2.2.2.1 <;> cases eqs eI2 x.2.2.2.2.2.2.2.2.2.2.1 y.2.2.2.2.2.2.2.2.2.2.1 <;> rfl
      · have e : eOb x y = false := by unfold eOb; rw [eqs_ne e3]; simp
        rw [e]
        simp only [d51, lt, shr, nel e3, iteO, Bool.or_true, if_true]
    · have e : eOb x y = false := by unfold eOb; rw [eqs_ne e2]; simp
      rw [e]
      simp only [d51, lt, shr, nel e2, iteO, Bool.or_true, Bool.true_or, if_true]
  · have e : eOb x y = false := by unfold eOb; rw [eqs_ne e1]; simp
    rw [e]
    simp only [d51, lt, shr, nel e1, iteO, Bool.true_or, if_true]
def ePA (x y : PA) : Bool := eSV x.1 y.1 && ((x.2.1 == y.2.1) && ((x.2.2.1 == y.2.2.1) && ((x.2.2.2.2.2.2.1 == y.2.2.2.2.2.2.1) && (allEq (fun a b => a == b) x.2.2.2.2.2.2.2.1 y.2.2.2.2.2.2.2.1 && (eqs eI x.2.2.2.1 y.2.2.2.1 && (ePl x y && eOb x y))))))
theorem d31_val (k : Nat) (x y : PA) (h : FitP k x) : d31 k (x, (y, ())) = some ((ePA x y, ()), ()) := by
  simp only [d31, lt, bneN, d33_val k _ _ h.i.1 h.i.2, d50_val k _ _ h, d51_val k _ _ h, guA, iteA, iteO, Option.bind_some, andSelf]
  unfold ePA
  rw [show ((x.1.1 == y.1.1) && ((x.1.2.1 == y.1.2.1) && ((x.1.2.2.1 == y.1.2.2.1) && ((x.1.2.2.2.1 == y.1.2.2.2.1) && true)))) = eSV x.1 y.1 from rfl]
  generalize eSV x.1 y.1 = b1
  generalize (x.2.1 == y.2.1) = b2
  generalize (x.2.2.1 == y.2.2.1) = b3
  generalize (x.2.2.2.2.2.2.1 == y.2.2.2.2.2.2.1) = b4
  generalize allEq (fun a b => a == b) x.2.2.2.2.2.2.2.1 y.2.2.2.2.2.2.2.1 = b5
  generalize eqs eI x.2.2.2.1 y.2.2.2.1 = b6
  generalize ePl x y = b7
  generalize eOb x y = b8
  cases b1 <;> cases b2 <;> cases b3 <;> cases b4 <;> cases b5 <;> cases b6 <;> cases b7 <;> cases b8 <;> rfl
theorem d24_val (k : Nat) (x y : PA) (h : FitP k x) : d24 k (x, (y, ())) = some ((ePA x y, ()), ()) := by
  simp only [d24, lt, d26_val k _ _ h.i.1 h.i.2, d38_val k _ _ h.c.1 h.c.2, d39_val k _ _ h.r.1 h.r.2, d40_val k _ _ h.s.1 h.s.2, d41_val k _ _ h.e.1 h.e.2, d42_val k _ _ h.b.1 h.b.2, guA, iteA, Option.bind_some, andSelf]
  unfold ePA ePl eOb
  rw [show ((x.1.1 == y.1.1) && ((x.1.2.1 == y.1.2.1) && ((x.1.2.2.1 == y.1.2.2.1) && ((x.1.2.2.2.1 == y.1.2.2.2.1) && true)))) = eSV x.1 y.1 from rfl]
  generalize eSV x.1 y.1 = b1
  generalize (x.2.1 == y.2.1) = b2
  generalize (x.2.2.1 == y.2.2.1) = b3
  generalize (x.2.2.2.2.2.2.1 == y.2.2.2.2.2.2.1) = b4
  generalize allEq (fun a b => a == b) x.2.2.2.2.2.2.2.1 y.2.2.2.2.2.2.2.1 = b5
  generalize eqs eI x.2.2.2.1 y.2.2.2.1 = b6
  generalize eqs eIS x.2.2.2.2.1 y.2.2.2.2.1 = b7
  generalize eqs ePC x.2.2.2.2.2.1 y.2.2.2.2.2.1 = b8
  generalize eqs eI2 x.2.2.2.2.2.2.2.2.1 y.2.2.2.2.2.2.2.2.1 = b9
  generalize eqs eB x.2.2.2.2.2.2.2.2.2.1 y.2.2.2.2.2.2.2.2.2.1 = b10
  generalize eqs eI2 x.2.2.2.2.2.2.2.2.2.2.1 y.2.2.2.2.2.2.2.2.2.2.1 = b11
  congr 2
  simp only [Bool.and_assoc]
  rw [Prod.mk.injEq]
  refine ⟨?_, rfl⟩
  rw [Bool.eq_iff_iff]
  simp only [Bool.and_eq_true]
  exact ⟨fun ⟨h2, h3, h4, h5, h1, h6, h7, h8, h9, h10, h11⟩ => ⟨h1, h2, h3, h4, h5, h6, h7, h8, h9, h10, h11⟩, fun ⟨h1, h2, h3, h4, h5, h6, h7, h8, h9, h10, h11⟩ => ⟨h2, h3, h4, h5, h1, h6, h7, h8, h9, h10, h11⟩⟩
end Go.Proofs.Ytledeaknnihlmaa.L
