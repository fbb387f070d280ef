import Derived.Test.YtledeaknnihlmaaFaM8
namespace Go.Proofs.Ytledeaknnihlmaa.L
open Go Go.Lift
set_option linter.unusedVariables false
set_option linter.unusedSimpArgs false
set_option maxRecDepth 100000

def eIN (x y : IN) : Bool := (x.1 == y.1) && ((x.2.1 == y.2.1) && ((x.2.2.1 == y.2.2.1) && eqs eI x.2.2.2.1 y.2.2.2.1))
theorem d25_val (k : Nat) (x y : IN) (h : LB k x.2.2.2.1.length) : d25 k (x, (y, ())) = some ((eIN x y, ()), ()) := by
  simp only [d25, lt, iteA, d26_val k _ _ h.1 h.2, guA, Option.bind_some, andSelf]
  unfold eIN
  simp only [Bool.and_assoc]
theorem d27_loop (k0 : Nat) (l m : List IN) (hlm : l.length = m.length) (hb : l.length < 4611686018427387904) (hf : ∀ c ∈ l, LB k0 c.2.2.2.1.length) : ∀ r i k, i + r = l.length → r < k →
    loopN (d27_L2 k0 (fun _ => some ((true, ()), ()))) k ((), ((i : Int), ((), (m, (l, (((l.length : Nat) : Int), ())))))) = some ((eqs eIN (l.drop i) (m.drop i), ()), ()) := by
  intro r
  induction r with
  | zero =>
    intro i k hi hk
    obtain ⟨k, rfl⟩ : ∃ k', k = k' + 1 := ⟨k - 1, by omega⟩
    rw [eqs_end (by omega) (by omega)]
    simp only [loopN, d27_L2, lt, dnlt (show l.length ≤ i by omega), Bool.false_eq_true, if_false]
  | succ r ih =>
    intro i k hi hk
    obtain ⟨k, rfl⟩ : ∃ k', k = k' + 1 := ⟨k - 1, by omega⟩
    have h1 : i < l.length := by omega
    have h2 : i < m.length := by omega
    have hih := ih (i + 1) k (by omega) (by omega)
    have hv' := d25_val k0 l[i] m[i] (hf _ (List.getElem_mem h1))
    rw [eqs_drop h1 h2]
    cases hv : eIN l[i] m[i] with
    | true =>
      rw [hv] at hv'
      simp only [loopN, d27_L2, lt, shr, dlt h1, dlt h2, dge0, Bool.and_self, if_true, Int.toNat_natCast, getD_mem h1, getD_mem h2, hv', Option.bind_some, Bool.not_true, Bool.true_and, Bool.false_eq_true, if_false, d27_K1, wr1 (show i < 4611686018427387904 by omega)]
      exact hih
    | false =>
      rw [hv] at hv'
      simp only [loopN, d27_L2, lt, shr, dlt h1, dlt h2, dge0, Bool.and_self, if_true, Int.toNat_natCast, getD_mem h1, getD_mem h2, hv', Option.bind_some, Bool.not_false, Bool.false_and]
theorem d27_val (k : Nat) (l m : List IN) (h : LB k l.length) (hf : ∀ c ∈ l, LB k c.2.2.2.1.length) : d27 k (l, (m, ((), ()))) = some ((eqs eIN l m, ()), ()) := by
  by_cases he : l.length = m.length
  · have := d27_loop k l m he h.2 hf l.length 0 k (by omega) h.1
    simp only [d27, lt, shr, eql' he, Bool.false_eq_true, if_false]
    exact this
  · rw [eqs_ne he]
    simp only [d27, lt, shr, nel he, if_true]
theorem d11_loop (k0 : Nat) (l m : List IN) (hlm : l.length = m.length) (hb : l.length < 4611686018427387904) (hf : ∀ c ∈ l, LB k0 c.2.2.2.1.length) : ∀ r i k, i + r = l.length → r < k →
    loopN (d11_L2 k0 (fun _ => some ((true, ()), ()))) k ((m, (l, ())), ((i : Int), ())) = some ((eqs eIN (l.drop i) (m.drop i), ()), ()) := by
  intro r
  induction r with
  | zero =>
    intro i k hi hk
    obtain ⟨k, rfl⟩ : ∃ k', k = k' + 1 := ⟨k - 1, by omega⟩
    rw [eqs_end (by omega) (by omega)]
    simp only [loopN, d11_L2, lt, dnlt (show l.length ≤ i by omega), Bool.false_eq_true, if_false]
  | succ r ih =>
    intro i k hi hk
    obtain ⟨k, rfl⟩ : ∃ k', k = k' + 1 := ⟨k - 1, by omega⟩
    have h1 : i < l.length := by omega
    have h2 : i < m.length := by omega
    have hih := ih (i + 1) k (by omega) (by omega)
    have hb1 := hf _ (List.getElem_mem h1)
    have h33 := d33_val k0 l[i].2.2.2.1 m[i].2.2.2.1 hb1.1 hb1.2
    rw [eqs_drop h1 h2]
    have he : eIN l[i] m[i] = ((l[i].1 == m[i].1) && ((l[i].2.1 == m[i].2.1) && ((l[i].2.2.1 == m[i].2.2.1) && eqs eI l[i].2.2.2.1 m[i].2.2.2.1))) := rfl
    rw [he]
    simp only [loopN, d11_L2, lt, shr, dlt h1, nlt h1, dlt h2, nlt h2, dge0, Bool.and_self, Bool.and_true, Bool.or_true, if_true, Int.toNat_natCast, getD_mem h1, getD_mem h2, h33, guO, bneN, iteO, Option.bind_some, d11_K1, wr1 (show i < 4611686018427387904 by omega), hih]
    generalize (l[i].1 == m[i].1) = b1
    generalize (l[i].2.1 == m[i].2.1) = b2
    generalize (l[i].2.2.1 == m[i].2.2.1) = b3
    generalize eqs eI l[i].2.2.2.1 m[i].2.2.2.1 = b4
    generalize eqs eIN (l.drop (i + 1)) (m.drop (i + 1)) = b5
    cases b1 <;> cases b2 <;> cases b3 <;> cases b4 <;> cases b5 <;> rfl
/-! ### the reference's choice -/
def rcF (im : IM) (x : IN) (s : Int) : Bool := if (x.2.1 == (2 : Int)) = true then x.2.2.1 == s else if (x.2.1 == (1 : Int)) = true then (if 1 ≤ x.2.2.1 ∧ x.2.2.1 ≤ (im.2.2.1.length : Int) then (im.2.2.1.getD (Int.toNat (x.2.2.1 - 1)) dCH).2.2.1.any (fun p => ov im p == s) else false) else false
theorem d52_val (k : Nat) (hk : 70 < k) {im : IM} (h : Small im) (x : IN) (s : Int) (hs : 1 ≤ s ∧ s ≤ (im.1.length : Int)) : d52 k (im, (x, (s, ()))) = some ((rcF im x s, ()), ()) := by
  have hc := h.c
  unfold rcF
  simp only [d52, rthere_eq, decide_eq_true hs, Option.bind_some, lt, Bool.not_true, Bool.false_eq_true, if_false, bneN, iteO]
  cases b2 : (x.2.1 == (2 : Int)) with
  | true => simp only [if_true]
  | false =>
    cases b1 : (x.2.1 == (1 : Int)) with
    | true =>
      by_cases ht : 1 ≤ x.2.2.1 ∧ x.2.2.1 ≤ (im.2.2.1.length : Int)
      · have e1 : decide (x.2.2.1 < 1) = false := decide_eq_false (by omega)
        have e2 : decide (x.2.2.1 > (im.2.2.1.length : Int)) = false := decide_eq_false (by omega)
        have e3 : IntKind.wrap .i64 (x.2.2.1 - 1) = x.2.2.1 - 1 := wrI (by omega) (by omega)
        have e4 : decide ((0 : Int) ≤ x.2.2.1 - 1) = true := decide_eq_true (by omega)
        have e5 : decide (x.2.2.1 - 1 < (im.2.2.1.length : Int)) = true := decide_eq_true (by omega)
        have hm : im.2.2.1.getD (Int.toNat (x.2.2.1 - 1)) dCH ∈ im.2.2.1 := by rw [getD_mem (show Int.toNat (x.2.2.1 - 1) < im.2.2.1.length by omega)]; exact List.getElem_mem _
        have hl := leads_val k im h.p (im.2.2.1.getD (Int.toNat (x.2.2.1 - 1)) dCH) (h.t _ hm) hk s
        rw [if_pos ht]
        simp only [e1, e2, e3, e4, e5, Bool.not_true, Bool.or_self, Bool.and_self, Bool.false_eq_true, if_false, if_true, hl, Option.bind_some]
      · rw [if_neg ht]
        have e : (!true || decide (x.2.2.1 < 1) || decide (x.2.2.1 > (im.2.2.1.length : Int))) = true := by
          by_cases q : x.2.2.1 < 1
          · rw [decide_eq_true q]; rfl
          · rw [decide_eq_true (show x.2.2.1 > (im.2.2.1.length : Int) by omega)]; simp
        simp only [e, Bool.false_eq_true, if_false, if_true]
    | false =>
      simp only [Bool.not_false, Bool.true_or, Bool.false_eq_true, if_false, if_true]
def cmF (im : IM) (l : List Int) (x : IN) : Bool := l.any (rcF im x)
theorem d32_in (k0 : Nat) (hk0 : 70 < k0) {im : IM} (h : Small im) (l : List Int) (hl : l.length ≤ 40) (hm : ∀ s ∈ l, 1 ≤ s ∧ s ≤ (im.1.length : Int)) (ins : List IN) {j : Nat} (hj : j < ins.length) (out : List IN) (K : (IM × List IN × Unit) × List Int × List IN × Int × Bool × Unit → Option ((List IN × Unit) × Unit)) : ∀ r i k (b : Bool), i + r = l.length → r < k →
    loopN (d32_L6 k0 K) k ((im, (out, ())), ((i : Int), (l, ((j : Int), (ins, (b, ())))))) = K ((im, (out, ())), (l, (ins, ((j : Int), ((b || (l.drop i).any (rcF im ins[j])), ()))))) := by
  intro r
  induction r with
  | zero =>
    intro i k b hi hk
    obtain ⟨k, rfl⟩ : ∃ k', k = k' + 1 := ⟨k - 1, by omega⟩
    rw [List.drop_of_length_le (by omega)]
    simp only [loopN, d32_L6, lt, dnlt (show l.length ≤ i by omega), Bool.false_eq_true, if_false, List.any_nil, Bool.or_false]
  | succ r ih =>
    intro i k b hi hk
    obtain ⟨k, rfl⟩ : ∃ k', k = k' + 1 := ⟨k - 1, by omega⟩
    have h1 : i < l.length := by omega
    have h52 := d52_val k0 hk0 h ins[j] l[i] (hm _ (List.getElem_mem h1))
    have hih := ih (i + 1) k (b || rcF im ins[j] l[i]) (by omega) (by omega)
    rw [drop_cons h1, List.any_cons, ← Bool.or_assoc, ← hih]
    have hbb : (b || (!b && rcF im ins[j] l[i])) = (b || rcF im ins[j] l[i]) := by cases b <;> rfl
    simp only [loopN, d32_L6, lt, shr, dlt h1, dlt hj, dge0, Bool.and_self, Bool.or_true, if_true, Int.toNat_natCast, getD_mem h1, getD_mem hj, h52, guO, iteO, Option.bind_some, hbb, d32_K5, wr1 (show i < 4611686018427387904 by omega)]
theorem d32_loop (k0 : Nat) (hk0 : 70 < k0) {im : IM} (h : Small im) (l : List Int) (hl : l.length ≤ 40) (hm : ∀ s ∈ l, 1 ≤ s ∧ s ≤ (im.1.length : Int)) (ins : List IN) (hr : Rn ins.length) : ∀ r i k, i + r = ins.length → r < k →
    loopN (d32_L7 k0 d32_K1) k ((im, ((ins.take i).filter (cmF im l), ())), (l, ((i : Int), (ins, ())))) = some ((ins.filter (cmF im l), ()), ()) := by
  have hb := hr.2
  intro r
  induction r with
  | zero =>
    intro i k hi hk
    obtain ⟨k, rfl⟩ : ∃ k', k = k' + 1 := ⟨k - 1, by omega⟩
    rw [List.take_of_length_le (by omega)]
    simp only [loopN, d32_L7, lt, dnlt (show ins.length ≤ i by omega), Bool.false_eq_true, if_false, d32_K1]
  | succ r ih =>
    intro i k hi hk
    obtain ⟨k, rfl⟩ : ∃ k', k = k' + 1 := ⟨k - 1, by omega⟩
    have h1 : i < ins.length := by omega
    have hih := ih (i + 1) k (by omega) (by omega)
    have et : (ins.take (i + 1)).filter (cmF im l) = (ins.take i).filter (cmF im l) ++ (if cmF im l ins[i] = true then [ins[i]] else []) := by
      rw [List.take_succ_eq_append_getElem h1, List.filter_append]
      congr 1
      by_cases q : cmF im l ins[i] = true
      · rw [if_pos q, List.filter_cons_of_pos q]; rfl
      · rw [if_neg q, List.filter_cons_of_neg q]; rfl
    rw [et] at hih
    have hle : ((ins.take i).filter (cmF im l)).length ≤ ins.length := Nat.le_trans (List.length_filter_le _ _) (by rw [List.length_take]; omega)
    have hf := hr.fit hle
    have hin := d32_in k0 hk0 h l hl hm ins h1 ((ins.take i).filter (cmF im l)) (d32_K4 (d32_K2 (loopN (d32_L7 k0 d32_K1) k))) l.length 0 k0 false (by omega) (by omega)
    rw [List.drop_zero, Bool.false_or, show l.any (rcF im ins[i]) = cmF im l ins[i] from rfl] at hin
    simp only [loopN]
    rw [show d32_L7 k0 d32_K1 (loopN (d32_L7 k0 d32_K1) k) ((im, ((ins.take i).filter (cmF im l), ())), (l, ((i : Int), (ins, ())))) = _ from by
      simp only [d32_L7, lt, shr, dlt h1, if_true]
      exact hin]
    cases hv : cmF im l ins[i] with
    | true =>
      rw [hv, if_pos rfl] at hih
      simp only [d32_K4, lt, shr, if_true, dlt h1, dge0, Bool.and_self, Int.toNat_natCast, getD_mem h1, List.length_cons, List.length_nil, Nat.zero_add, hf, d32_K3, d32_K2, wr1 (show i < 4611686018427387904 by omega)]
      exact hih
    | false =>
      rw [hv, if_neg (by decide), List.append_nil] at hih
      simp only [d32_K4, lt, shr, Bool.false_eq_true, if_false, d32_K3, d32_K2, wr1 (show i < 4611686018427387904 by omega)]
      exact hih
theorem coming_val (k : Nat) (hk : 71 < k) {im : IM} (h : Small im) (l : List Int) (hl : l.length ≤ 40) (hm : ∀ s ∈ l, 1 ≤ s ∧ s ≤ (im.1.length : Int)) (ins : List IN) (hr : Rn ins.length) (hki : ins.length < k) : d32 k (im, (ins, (l, ()))) = some ((ins.filter (cmF im l), ()), ()) := by
  have := d32_loop k (by omega) h l hl hm ins hr ins.length 0 k (by omega) hki
  simp only [d32, shr]
  exact this
/-- Both choose the same. -/
theorem rch_cm {im : IM} (l : List Int) (hm : ∀ s ∈ l, 1 ≤ s ∧ s ≤ (im.1.length : Int)) : rchF im l = cmF im l := by
  funext x
  rw [Bool.eq_iff_iff]
  unfold rchF cmF inter
  rw [List.any_eq_true, List.any_eq_true]
  have hov : ∀ (p s : Int), 1 ≤ s ∧ s ≤ (im.1.length : Int) → (ov im p = s ↔ pv im p = s) := fun p s hs => by
    unfold ov
    split <;> omega
  unfold toI
  by_cases b2 : (x.2.1 == (2 : Int)) = true
  · rw [if_pos b2]
    constructor
    · rintro ⟨p, hp, hq⟩
      obtain rfl := List.mem_singleton.1 hp
      obtain ⟨q, hq, e⟩ := List.any_eq_true.1 hq
      exact ⟨q, hq, by unfold rcF; rw [if_pos b2]; exact e⟩
    · rintro ⟨q, hq, e⟩
      unfold rcF at e
      rw [if_pos b2] at e
      exact ⟨_, List.mem_singleton_self _, List.any_eq_true.2 ⟨q, hq, e⟩⟩
  · rw [if_neg b2]
    by_cases b1 : (x.2.1 == (1 : Int)) = true
    · rw [if_pos b1]
      by_cases ht : 1 ≤ x.2.2.1 ∧ x.2.2.1 ≤ (im.2.2.1.length : Int)
      · rw [if_pos ht]
        constructor
        · rintro ⟨p, hp, hq⟩
          obtain ⟨q, hq, e⟩ := List.any_eq_true.1 hq
          obtain rfl := eq_of_beq e
          refine ⟨p, hq, ?_⟩
          unfold rcF
          rw [if_neg b2, if_pos b1, if_pos ht]
          obtain ⟨t, h1, h2⟩ := (mem_toL (hm p hq).1).1 hp
          exact List.any_eq_true.2 ⟨t, h1, beq_iff_eq.2 ((hov t p (hm p hq)).2 h2)⟩
        · rintro ⟨q, hq, e⟩
          unfold rcF at e
          rw [if_neg b2, if_pos b1, if_pos ht] at e
          obtain ⟨t, h1, h2⟩ := List.any_eq_true.1 e
          exact ⟨q, (mem_toL (hm q hq).1).2 ⟨t, h1, (hov t q (hm q hq)).1 (eq_of_beq h2)⟩, List.any_eq_true.2 ⟨q, hq, beq_self_eq_true _⟩⟩
      · rw [if_neg ht]
        constructor
        · rintro ⟨p, hp, _⟩; cases hp
        · rintro ⟨q, hq, e⟩
          unfold rcF at e
          rw [if_neg b2, if_pos b1, if_neg ht] at e
          cases e
    · rw [if_neg b1]
      constructor
      · rintro ⟨p, hp, _⟩; cases hp
      · rintro ⟨q, hq, e⟩
        unfold rcF at e
        rw [if_neg b2, if_neg b1] at e
        cases e
/-- A script that the functions can run over. -/
structure FitN (k : Nat) (l : List IN) : Prop where
  kk : l.length < k
  r : Rn l.length
  d : ∀ x ∈ l, LB k x.2.2.2.1.length
theorem inputs_both {k : Nat} {im : IM} (hx : FitI k im) {a b : List IN} (ha : FitN k a) (hb : FitN k b) {part : Int} (hp : 1 ≤ part ∧ part ≤ (im.1.length : Int)) :
    ∃ r, d8 k (im, (a, (b, (part, ())))) = some ((r, (0, ())), ()) ∧ d11 k (im, (a, (b, (part, ())))) = some ((r, ()), ()) := by
  have hk := hx.kk
  obtain ⟨l, h1, h2, h3, h4⟩ := sources_both hx.sm k hx.kk hp
  have q1 := reaching_val k hk hx.sm l h1 a ha.r ha.kk
  have q2 := reaching_val k hk hx.sm l h1 b hb.r hb.kk
  have q3 := coming_val k hk hx.sm l h1 h2 a ha.r ha.kk
  have q4 := coming_val k hk hx.sm l h1 h2 b hb.r hb.kk
  rw [rch_cm l h2] at q1 q2
  have hle : (a.filter (cmF im l)).length ≤ a.length := List.length_filter_le _ _
  have hlb : LB k (a.filter (cmF im l)).length := ⟨by have := ha.kk; omega, by have := ha.r.2; omega⟩
  have hd : ∀ c ∈ a.filter (cmF im l), LB k c.2.2.2.1.length := fun c hc => ha.d c (List.mem_filter.1 hc).1
  have q5 := d27_val k (a.filter (cmF im l)) (b.filter (cmF im l)) hlb hd
  refine ⟨eqs eIN (a.filter (cmF im l)) (b.filter (cmF im l)), ?_, ?_⟩
  · simp only [d8, h3, Option.bind_some, lt, show ((0 : Int) != (0 : Int)) = false from rfl, Bool.false_eq_true, if_false, q1, q2, q5]
  · by_cases he : (a.filter (cmF im l)).length = (b.filter (cmF im l)).length
    · have := d11_loop k (a.filter (cmF im l)) (b.filter (cmF im l)) he hlb.2 hd _ 0 k (Nat.zero_add _) hlb.1
      simp only [d11, h4, Option.bind_some, lt, shr, q3, q4, Bool.not_true, iteO, Bool.false_or, eql' he, Bool.false_eq_true, if_false]
      exact this
    · rw [eqs_ne he]
      simp only [d11, h4, Option.bind_some, lt, shr, q3, q4, Bool.not_true, iteO, Bool.false_or, nel he, if_true]
theorem inputs_no {k : Nat} (im : IM) (a b : List IN) {part : Int} (hp : ¬ (1 ≤ part ∧ part ≤ (im.1.length : Int))) : d8 k (im, (a, (b, (part, ())))) = some ((false, (220, ())), ()) := by
  simp only [d8, sources_no k part hp, Option.bind_some, lt, show ((220 : Int) != (0 : Int)) = true from rfl, if_true]
end Go.Proofs.Ytledeaknnihlmaa.L
