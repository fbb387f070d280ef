import Derived.Test.YtledeaknnihlmaaFaM6
namespace Go.Proofs.Ytledeaknnihlmaa.L
open Go Go.Lift
set_option linter.unusedVariables false
set_option linter.unusedSimpArgs false
set_option maxRecDepth 100000

/-- An image that the functions can run over. -/
structure FitI (k : Nat) (im : IM) : Prop where
  kk : 71 < k
  sm : Small im
  ps : ∀ p ∈ im.1, FitP k p
theorem FitI.cs {k : Nat} {im : IM} (h : FitI k im) : ∀ c ∈ im.2.2.1, LB k c.2.2.1.length := fun c hc => by
  have := h.sm.t c hc
  have := h.kk
  exact ⟨by omega, by omega⟩
theorem FitI.l1 {k : Nat} {im : IM} (h : FitI k im) : LB k im.1.length := by
  have := h.sm.n
  have := h.kk
  exact ⟨by omega, by omega⟩
theorem FitI.l2 {k : Nat} {im : IM} (h : FitI k im) : LB k im.2.1.length := by
  have := h.sm.p
  have := h.kk
  exact ⟨by omega, by omega⟩
theorem FitI.l3 {k : Nat} {im : IM} (h : FitI k im) : LB k im.2.2.1.length := by
  have := h.sm.c
  have := h.kk
  exact ⟨by omega, by omega⟩
abbrev dPA : PA := (((0 : Int), ((0 : Int), ((0 : Int), ((0 : Int), ())))), ((0 : Int), ((0 : Int), (([] : List Int), (([] : List IS), (([] : List PC), ((0 : Int), ((List.replicate (8 : Nat) (0 : Int)), (([] : List I2), (([] : List Bool), (([] : List I2), ())))))))))))
/-- A source's partition is alike in both. -/
def eAt (x y : IM) (s : Int) : Bool := ePA (x.1.getD (Int.toNat (s - 1)) dPA) (y.1.getD (Int.toNat (s - 1)) dPA)
theorem d6_loop (k0 : Nat) {x y : IM} (hx : FitI k0 x) (hlen : x.1.length = y.1.length) (l : List Int) (hl : l.length ≤ 40) (hm : ∀ s ∈ l, 1 ≤ s ∧ s ≤ (x.1.length : Int)) : ∀ r i k, i + r = l.length → r < k →
    loopN (d6_L3 k0 d6_K1) k ((y, (x, (l, ()))), ((i : Int), (((l.length : Nat) : Int), ()))) = some (((l.drop i).all (eAt x y), (0, ())), ()) := by
  intro r
  induction r with
  | zero =>
    intro i k hi hk
    obtain ⟨k, rfl⟩ : ∃ k', k = k' + 1 := ⟨k - 1, by omega⟩
    rw [List.drop_of_length_le (by omega)]
    simp only [loopN, d6_L3, lt, dnlt (show l.length ≤ i by omega), Bool.false_eq_true, if_false, d6_K1, List.all_nil]
  | succ r ih =>
    intro i k hi hk
    obtain ⟨k, rfl⟩ : ∃ k', k = k' + 1 := ⟨k - 1, by omega⟩
    have h1 : i < l.length := by omega
    have hih := ih (i + 1) k (by omega) (by omega)
    have hs := hm l[i] (List.getElem_mem h1)
    have hn := hx.sm.n
    rw [drop_cons h1, List.all_cons]
    generalize hsv : l[i] = s at hs
    have hg : l.getD i 0 = s := by rw [getD_mem h1]; exact hsv
    have e : IntKind.wrap .i64 (s - 1) = s - 1 := wrI (by omega) (by omega)
    have e1 : decide ((0 : Int) ≤ s - 1) = true := decide_eq_true (by omega)
    have e2 : decide (s - 1 < (x.1.length : Int)) = true := decide_eq_true (by omega)
    have e3 : decide (s - 1 < (y.1.length : Int)) = true := decide_eq_true (by omega)
    have hmem : x.1.getD (Int.toNat (s - 1)) dPA ∈ x.1 := by rw [getD_mem (show Int.toNat (s - 1) < x.1.length by omega)]; exact List.getElem_mem _
    have hv' := d24_val k0 (x.1.getD (Int.toNat (s - 1)) dPA) (y.1.getD (Int.toNat (s - 1)) dPA) (hx.ps _ hmem)
    rw [show ePA (x.1.getD (Int.toNat (s - 1)) dPA) (y.1.getD (Int.toNat (s - 1)) dPA) = eAt x y s from rfl] at hv'
    cases hv : eAt x y s with
    | true =>
      rw [hv] at hv'
      simp only [loopN, d6_L3, lt, shr, dlt h1, nlt h1, dge0, hg, e, e1, e2, e3, Bool.and_self, Bool.and_true, if_true, Int.toNat_natCast, hv', Option.bind_some, Bool.not_true, Bool.true_and, Bool.false_eq_true, if_false, d6_K2, wr1 (show i < 4611686018427387904 by omega)]
      exact hih
    | false =>
      rw [hv] at hv'
      simp only [loopN, d6_L3, lt, shr, dlt h1, nlt h1, dge0, hg, e, e1, e2, e3, Bool.and_self, Bool.and_true, if_true, Int.toNat_natCast, hv', Option.bind_some, Bool.not_false, Bool.false_and]
theorem d10_loop (k0 : Nat) {x y : IM} (hx : FitI k0 x) (hlen : x.1.length = y.1.length) (ok : Bool) (l : List Int) (hl : l.length ≤ 40) (hm : ∀ s ∈ l, 1 ≤ s ∧ s ≤ (x.1.length : Int)) : ∀ r i k, i + r = l.length → r < k →
    loopN (d10_L3 k0 d10_K1) k ((l, (y, (x, ()))), ((i : Int), (ok, ()))) = if (l.drop i).all (eAt x y) = true then some ((ok, ()), ()) else some ((false, ()), ()) := by
  intro r
  induction r with
  | zero =>
    intro i k hi hk
    obtain ⟨k, rfl⟩ : ∃ k', k = k' + 1 := ⟨k - 1, by omega⟩
    rw [List.drop_of_length_le (by omega)]
    simp only [loopN, d10_L3, lt, dnlt (show l.length ≤ i by omega), Bool.false_eq_true, if_false, d10_K1, List.all_nil, if_true]
  | succ r ih =>
    intro i k hi hk
    obtain ⟨k, rfl⟩ : ∃ k', k = k' + 1 := ⟨k - 1, by omega⟩
    have h1 : i < l.length := by omega
    have hih := ih (i + 1) k (by omega) (by omega)
    have hs := hm l[i] (List.getElem_mem h1)
    have hn := hx.sm.n
    rw [drop_cons h1, List.all_cons]
    generalize hsv : l[i] = s at hs
    have hg : l.getD i 0 = s := by rw [getD_mem h1]; exact hsv
    have e : IntKind.wrap .i64 (s - 1) = s - 1 := wrI (by omega) (by omega)
    have e1 : decide ((0 : Int) ≤ s - 1) = true := decide_eq_true (by omega)
    have e2 : decide (s - 1 < (x.1.length : Int)) = true := decide_eq_true (by omega)
    have e3 : decide (s - 1 < (y.1.length : Int)) = true := decide_eq_true (by omega)
    have hmem : x.1.getD (Int.toNat (s - 1)) dPA ∈ x.1 := by rw [getD_mem (show Int.toNat (s - 1) < x.1.length by omega)]; exact List.getElem_mem _
    have hv' := d31_val k0 (x.1.getD (Int.toNat (s - 1)) dPA) (y.1.getD (Int.toNat (s - 1)) dPA) (hx.ps _ hmem)
    rw [show ePA (x.1.getD (Int.toNat (s - 1)) dPA) (y.1.getD (Int.toNat (s - 1)) dPA) = eAt x y s from rfl] at hv'
    cases hv : eAt x y s with
    | true =>
      rw [hv] at hv'
      simp only [loopN, d10_L3, lt, shr, dlt h1, nlt h1, dge0, hg, e, e1, e2, e3, Bool.and_self, Bool.and_true, if_true, Int.toNat_natCast, hv', Option.bind_some, Bool.not_true, Bool.true_and, Bool.false_eq_true, if_false, d10_K2, wr1 (show i < 4611686018427387904 by omega)]
      exact hih
    | false =>
      rw [hv] at hv'
      simp only [loopN, d10_L3, lt, shr, dlt h1, nlt h1, dge0, hg, e, e1, e2, e3, Bool.and_self, Bool.and_true, if_true, Int.toNat_natCast, hv', Option.bind_some, Bool.not_false, Bool.false_and, Bool.false_eq_true, if_false]
theorem alike_both {k : Nat} {x : IM} (y : IM) (hx : FitI k x) {part : Int} (hp : 1 ≤ part ∧ part ≤ (x.1.length : Int)) :
    ∃ b, d6 k (x, (y, (part, ()))) = some ((b, (0, ())), ()) ∧ d10 k (x, (y, (part, ()))) = some ((b, ()), ()) := by
  obtain ⟨l, h1, h2, h3, h4⟩ := sources_both hx.sm k hx.kk hp
  have q1 := d18_val k x.1 y.1 hx.l1
  have q2 := d20_val k x.2.2.1 y.2.2.1 hx.l3 hx.cs
  have q3 := d23_val k x.2.1 y.2.1 hx.l2.1 hx.l2.2
  have q4 := d29_val k x y hx.l1 hx.l2 hx.l3 hx.cs
  have hk := hx.kk
  cases hr : eRoads x y with
  | true =>
    have hr' := hr
    unfold eRoads at hr'
    simp only [Bool.and_eq_true] at hr'
    obtain ⟨r1, r2, r3⟩ := hr'
    have hlen := eqs_len r1
    rw [hr] at q4
    rw [r1] at q1
    rw [r2] at q3
    rw [r3] at q2
    have a1 := d6_loop k hx hlen l h1 h2 l.length 0 k (by omega) (by omega)
    have a2 := d10_loop k hx hlen true l h1 h2 l.length 0 k (by omega) (by omega)
    rw [List.drop_zero] at a1 a2
    refine ⟨l.all (eAt x y), ?_, ?_⟩
    · simp only [d6, h3, Option.bind_some, lt, shr, show ((0 : Int) != (0 : Int)) = false from rfl, Bool.false_eq_true, if_false, q1, q2, q3, Bool.not_true, beq_self_eq_true, Bool.and_self, if_true]
      exact a1
    · simp only [d10, q4, h4, Option.bind_some, lt, shr, Bool.not_true, Bool.false_eq_true, if_false]
      refine Eq.trans a2 ?_
      cases l.all (eAt x y) <;> rfl
  | false =>
    rw [hr] at q4
    refine ⟨false, ?_, ?_⟩
    · simp only [d6, h3, Option.bind_some, lt, shr, show ((0 : Int) != (0 : Int)) = false from rfl, Bool.false_eq_true, if_false, q1, q2, q3]
      unfold eRoads at hr
      generalize eqs eSP x.1 y.1 = b1 at hr
      generalize eqs ePO x.2.1 y.2.1 = b2 at hr
      generalize eqs eCH x.2.2.1 y.2.2.1 = b3 at hr
      cases b1 <;> cases b2 <;> cases b3 <;> first | rfl | cases hr
    · simp only [d10, q4, Option.bind_some, lt, shr, Bool.not_false, if_true]
theorem alike_no {k : Nat} (x y : IM) {part : Int} (hp : ¬ (1 ≤ part ∧ part ≤ (x.1.length : Int))) : d6 k (x, (y, (part, ()))) = some ((false, (220, ())), ()) := by
  simp only [d6, sources_no k part hp, Option.bind_some, lt, show ((220 : Int) != (0 : Int)) = true from rfl, if_true]
end Go.Proofs.Ytledeaknnihlmaa.L
