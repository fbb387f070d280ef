import Derived.Test.YtledeaknnihlmaaFaM2
namespace Go.Proofs.Ytledeaknnihlmaa.L
open Go Go.Lift
set_option linter.unusedVariables false
set_option linter.unusedSimpArgs false
set_option maxRecDepth 100000

/-! ### Sources -/
def srcL (R : BM) (p : Nat) : Nat → Nat → List Int
  | 0, _ => []
  | m + 1, i => if gt R i p = true then ((i + 1 : Nat) : Int) :: srcL R p m (i + 1) else srcL R p m (i + 1)
theorem srcL_len (R : BM) (p : Nat) : ∀ m i, (srcL R p m i).length ≤ m
  | 0, i => Nat.le_refl _
  | m + 1, i => by
    have := srcL_len R p m (i + 1)
    simp only [srcL]
    split
    · simp only [List.length_cons]; omega
    · omega
theorem d17_loop (K : (List Int × Unit) × Unit → Option ((List Int × Int × Unit) × Unit)) {n p : Nat} (hn : n ≤ 40) (hp : p < n) {part : Int} (hpart : part = (p : Int) + 1) {R : BM} (hR : Sq n R) : ∀ m i k (out : List Int), i + m = n → m < k → out.length ≤ i →
    loopN (d17_L4 K) k ((out, (R, ())), ((i : Int), (part, ((n : Int), ())))) = K ((out ++ srcL R p m i, ()), ()) := by
  intro m
  induction m with
  | zero =>
    intro i k out hi hk ho
    obtain ⟨k, rfl⟩ : ∃ k', k = k' + 1 := ⟨k - 1, by omega⟩
    simp only [loopN, d17_L4, lt, dnlt (show n ≤ i by omega), Bool.false_eq_true, if_false, srcL, List.append_nil]
  | succ m ih =>
    intro i k out hi hk ho
    obtain ⟨k, rfl⟩ : ∃ k', k = k' + 1 := ⟨k - 1, by omega⟩
    have h1 : i < n := by omega
    have r1 := hR.row i h1
    have ep : IntKind.wrap .i64 (part - 1) = (p : Int) := by rw [wrI (by omega) (by omega)]; omega
    have g1 : (R.getD i []).getD p false = gt R i p := rfl
    have ef : appFits out.length 1 8 = true := fit1 (by omega) (by omega)
    cases hg : gt R i p with
    | true =>
      have := ih (i + 1) k (out ++ [((i + 1 : Nat) : Int)]) (by omega) (by omega) (by simp; omega)
      simp only [srcL, hg, if_true]
      rw [show out ++ ((i + 1 : Nat) : Int) :: srcL R p m (i + 1) = out ++ [((i + 1 : Nat) : Int)] ++ srcL R p m (i + 1) by simp, ← this]
      simp only [loopN, d17_L4, lt, shr, dlt h1, nlt h1, dlt hp, nlt hp, dge0, hR.len, r1, g1, hg, ep, Bool.and_self, Bool.and_true, if_true, Int.toNat_natCast, List.length_cons, List.length_nil, Nat.zero_add, ef, d17_K3, d17_K2, wr1 (show i < 4611686018427387904 by omega)]
    | false =>
      have := ih (i + 1) k out (by omega) (by omega) (by omega)
      simp only [srcL, hg, Bool.false_eq_true, if_false]
      rw [← this]
      simp only [loopN, d17_L4, lt, shr, dlt h1, nlt h1, dlt hp, nlt hp, dge0, hR.len, r1, g1, hg, ep, Bool.and_self, Bool.and_true, Bool.false_eq_true, if_false, if_true, Int.toNat_natCast, d17_K3, d17_K2, wr1 (show i < 4611686018427387904 by omega)]
theorem sources_no {im : IM} (k : Nat) (part : Int) (h : ¬ (1 ≤ part ∧ part ≤ (im.1.length : Int))) : d17 k (im, (part, ())) = some (([], (220, ())), ()) := by
  simp only [d17, there_eq, Option.bind_some, lt, decide_eq_false h, Bool.not_false, if_true]
theorem sources_yes {im : IM} (h : Small im) (k : Nat) (hk : 71 < k) {p : Nat} (hp : p < im.1.length) {R : BM} (h9 : d37 k (im, ()) = some ((R, ()), ())) (hR : Sq im.1.length R) : d17 k (im, ((p : Int) + 1, ())) = some ((srcL R p im.1.length 0, (0, ())), ()) := by
  have hn := h.n
  have h1 : decide (1 ≤ (p : Int) + 1 ∧ (p : Int) + 1 ≤ (im.1.length : Int)) = true := decide_eq_true (by omega)
  have := d17_loop d17_K1 h.n hp rfl hR im.1.length 0 k [] (by omega) (by omega) (by simp)
  simp only [d17, there_eq, Option.bind_some, lt, shr, h1, Bool.not_true, Bool.false_eq_true, if_false, h9, hR.len]
  exact this


abbrev BL := List Bool
def gb (l : BL) (j : Nat) : Bool := l.getD j false
theorem gb_set {n : Nat} {l : BL} (h : l.length = n) {i : Nat} (hi : i < n) (b : Bool) (a : Nat) : gb (l.set i b) a = if a = i then b else gb l a := by
  unfold gb; exact getD_set _ _ _ _ _ (by omega)
theorem count_le : ∀ (l l1 : BL), l.length = l1.length → (∀ a, gb l a = true → gb l1 a = true) → l.count true ≤ l1.count true
  | [], [], _, _ => Nat.le_refl _
  | x :: l, y :: l1, hl, h => by
    have ih := count_le l l1 (by simpa using hl) fun a => h (a + 1)
    have h0 : x = true → y = true := h 0
    cases x <;> cases y <;> simp at h0 ⊢ <;> omega
  | [], _ :: _, hl, _ => by simp at hl
  | _ :: _, [], hl, _ => by simp at hl
theorem count_lt : ∀ (l l1 : BL), l.length = l1.length → (∀ a, gb l a = true → gb l1 a = true) → l ≠ l1 → l.count true < l1.count true
  | [], [], _, _, hne => absurd rfl hne
  | x :: l, y :: l1, hl, h, hne => by
    have hl' : l.length = l1.length := by simpa using hl
    have hle := count_le l l1 hl' fun a => h (a + 1)
    have h0 : x = true → y = true := h 0
    by_cases e : l = l1
    · subst e
      have : x ≠ y := fun e => hne (by rw [e])
      cases x <;> cases y <;> simp at h0 this ⊢
    · have ih := count_lt l l1 hl' (fun a => h (a + 1)) e
      cases x <;> cases y <;> simp at h0 ⊢ <;> omega
  | [], _ :: _, hl, _, _ => by simp at hl
  | _ :: _, [], hl, _, _ => by simp at hl

def Closed (n : Nat) (D : BM) (l : BL) : Prop := ∀ b a, b < n → a < n → gb l b = true → gt D b a = true → gb l a = true

/-! ### the reference's roads -/
def ov (im : IM) (p : Int) : Int := if 1 ≤ pv im p ∧ pv im p ≤ (im.1.length : Int) then pv im p else 0
theorem rthere_eq (k : Nat) (im : IM) (p : Int) : d48 k (im, (p, ())) = some ((decide (1 ≤ p ∧ p ≤ (im.1.length : Int)), ()), ()) := by
  simp only [d48, lt]
  by_cases h1 : p ≥ 1
  · by_cases h2 : p ≤ (im.1.length : Int)
    · simp [h1, h2]
    · simp [h1, h2]
  · have : ¬ (1 ≤ p) := h1
    simp [this]
theorem of_val (k : Nat) (im : IM) (p : Int) (hl : im.2.1.length ≤ 70) : d66 k (im, (p, ())) = some ((ov im p, ()), ()) := by
  simp only [d66, lt]
  by_cases h1 : p < 1
  · have hp : pv im p = 0 := if_pos (.inl h1)
    have ho : ov im p = 0 := if_neg (by rw [hp]; omega)
    simp only [decide_eq_true h1, if_true, Bool.true_beq, Bool.false_and, Bool.not_false, Bool.true_or, Bool.false_eq_true, if_false, Option.bind_some, ho, show ((true == false) = false) from rfl]
  · have h1' : decide (p < 1) = false := decide_eq_false h1
    by_cases h2 : p > (im.2.1.length : Int)
    · have hp : pv im p = 0 := if_pos (.inr h2)
      have ho : ov im p = 0 := if_neg (by rw [hp]; omega)
      simp only [h1', decide_eq_true h2, Bool.false_eq_true, if_false, if_true, Bool.false_and, Bool.not_false, Bool.true_or, Option.bind_some, ho, show ((true == false) = false) from rfl]
    · have h2' : decide (p > (im.2.1.length : Int)) = false := decide_eq_false h2
      have e : IntKind.wrap .i64 (p - 1) = p - 1 := wrI (by omega) (by omega)
      have e1 : decide ((0 : Int) ≤ p - 1) = true := decide_eq_true (by omega)
      have e2 : decide (p - 1 < (im.2.1.length : Int)) = true := decide_eq_true (by omega)
      have hp : pv im p = (im.2.1.getD (Int.toNat (p - 1)) ((0 : Int), ((0 : Int), (false, ((0 : Int), ((0 : Int), ((0 : Int), ()))))))).1 := if_neg (fun h => h.elim h1 h2)
      by_cases h3 : 1 ≤ pv im p ∧ pv im p ≤ (im.1.length : Int)
      · have ho : ov im p = pv im p := if_pos h3
        simp only [h1', h2', e, e1, e2, Bool.false_eq_true, if_false, Bool.and_self, Bool.or_true, if_true, ← hp, rthere_eq, decide_eq_true h3, beq_self_eq_true, Option.bind_some, Bool.not_true, ho]
      · have ho : ov im p = 0 := if_neg h3
        simp only [h1', h2', e, e1, e2, Bool.false_eq_true, if_false, Bool.and_self, Bool.or_true, if_true, ← hp, rthere_eq, decide_eq_false h3, beq_self_eq_true, Option.bind_some, Bool.not_false, ho]
theorem d61_loop (k0 : Nat) (im : IM) (hl : im.2.1.length ≤ 70) (ch : CH) (hc : ch.2.2.1.length ≤ 70) (part : Int) : ∀ m i k, i + m = ch.2.2.1.length → m < k →
    loopN (d61_L2 k0 (fun _ => some ((false, ()), ()))) k ((ch, (im, ())), ((i : Int), (part, ()))) = some (((ch.2.2.1.drop i).any (fun p => ov im p == part), ()), ()) := by
  intro m
  induction m with
  | zero =>
    intro i k hi hk
    obtain ⟨k, rfl⟩ : ∃ k', k = k' + 1 := ⟨k - 1, by omega⟩
    rw [List.drop_of_length_le (by omega)]
    simp only [loopN, d61_L2, lt, dnlt (show ch.2.2.1.length ≤ i by omega), Bool.false_eq_true, if_false, List.any_nil]
  | succ m ih =>
    intro i k hi hk
    obtain ⟨k, rfl⟩ : ∃ k', k = k' + 1 := ⟨k - 1, by omega⟩
    have h1 : i < ch.2.2.1.length := by omega
    have hih := ih (i + 1) k (by omega) (by omega)
    rw [drop_cons h1, List.any_cons]
    cases hb : (ov im ch.2.2.1[i] == part) with
    | true =>
      simp only [loopN, d61_L2, lt, shr, dlt h1, dge0, Bool.and_self, if_true, Int.toNat_natCast, getD_mem h1, of_val k0 im _ hl, Option.bind_some, hb, Bool.true_or]
    | false =>
      simp only [loopN, d61_L2, lt, shr, dlt h1, dge0, Bool.and_self, if_true, Int.toNat_natCast, getD_mem h1, of_val k0 im _ hl, Option.bind_some, hb, Bool.false_or, Bool.false_eq_true, if_false, d61_K1, wr1 (show i < 4611686018427387904 by omega)]
      exact hih
theorem leads_val (k : Nat) (im : IM) (hl : im.2.1.length ≤ 70) (ch : CH) (hc : ch.2.2.1.length ≤ 70) (hk : 70 < k) (part : Int) : d61 k (im, (ch, (part, ()))) = some ((ch.2.2.1.any (fun p => ov im p == part), ()), ()) := by
  have := d61_loop k im hl ch hc part ch.2.2.1.length 0 k (by omega) (by omega)
  simp only [d61, shr]
  exact this
def jr (im : IM) (a b : Int) (ch : CH) : Bool := (ov im ch.2.1 == a) && ch.2.2.1.any (fun p => ov im p == b)
theorem d65_loop (k0 : Nat) (hk0 : 70 < k0) (im : IM) (h : Small im) (a b : Int) : ∀ m i k, i + m = im.2.2.1.length → m < k →
    loopN (d65_L2 k0 (fun _ => some ((false, ()), ()))) k ((im, ()), ((i : Int), (b, (a, ())))) = some (((im.2.2.1.drop i).any (jr im a b), ()), ()) := by
  have hl := h.p
  have hcl := h.c
  intro m
  induction m with
  | zero =>
    intro i k hi hk
    obtain ⟨k, rfl⟩ : ∃ k', k = k' + 1 := ⟨k - 1, by omega⟩
    rw [List.drop_of_length_le (by omega)]
    simp only [loopN, d65_L2, lt, dnlt (show im.2.2.1.length ≤ i by omega), Bool.false_eq_true, if_false, List.any_nil]
  | succ m ih =>
    intro i k hi hk
    obtain ⟨k, rfl⟩ : ∃ k', k = k' + 1 := ⟨k - 1, by omega⟩
    have h1 : i < im.2.2.1.length := by omega
    have hih := ih (i + 1) k (by omega) (by omega)
    have hct := h.t _ (List.getElem_mem h1)
    rw [drop_cons h1, List.any_cons]
    have hjr : jr im a b im.2.2.1[i] = ((ov im im.2.2.1[i].2.1 == a) && im.2.2.1[i].2.2.1.any (fun p => ov im p == b)) := rfl
    rw [hjr]
    cases hb : (ov im im.2.2.1[i].2.1 == a) with
    | true =>
      have hlv := leads_val k0 im hl im.2.2.1[i] hct hk0 b
      cases hv : im.2.2.1[i].2.2.1.any (fun p => ov im p == b) with
      | true =>
        rw [hv] at hlv
        simp only [loopN, d65_L2, lt, shr, dlt h1, dge0, Bool.and_self, if_true, Int.toNat_natCast, getD_mem h1, of_val k0 im _ hl, Option.bind_some, hb, beq_self_eq_true, hlv, Bool.true_or]
      | false =>
        rw [hv] at hlv
        simp only [loopN, d65_L2, lt, shr, dlt h1, dge0, Bool.and_self, if_true, Int.toNat_natCast, getD_mem h1, of_val k0 im _ hl, Option.bind_some, hb, beq_self_eq_true, hlv, Bool.and_false, Bool.false_or, Bool.false_eq_true, if_false, d65_K1, wr1 (show i < 4611686018427387904 by omega)]
        exact hih
    | false =>
      simp only [loopN, d65_L2, lt, shr, dlt h1, dge0, Bool.and_self, if_true, Int.toNat_natCast, getD_mem h1, of_val k0 im _ hl, Option.bind_some, hb, show ((false == true) = false) from rfl, Bool.false_and, Bool.false_or, Bool.false_eq_true, if_false, d65_K1, wr1 (show i < 4611686018427387904 by omega)]
      exact hih
theorem jr_jn {im : IM} {a c : Nat} (ha : a < im.1.length) (hc : c < im.1.length) (ch : CH) : jr im ((a + 1 : Nat) : Int) ((c + 1 : Nat) : Int) ch = jn im a c ch := by
  have key : ∀ (p : Int) (b : Nat), b < im.1.length → (ov im p = ((b + 1 : Nat) : Int) ↔ pv im p = (b : Int) + 1) := by
    intro p b hb
    unfold ov
    split <;> omega
  rw [Bool.eq_iff_iff]
  unfold jr jn
  rw [Bool.and_eq_true, Bool.and_eq_true, beq_iff_eq, decide_eq_true_eq, key _ _ ha, List.any_eq_true, List.any_eq_true]
  refine and_congr_right fun _ => ⟨?_, ?_⟩
  · rintro ⟨p, hp, e⟩
    have e := (key _ _ hc).1 (eq_of_beq e)
    exact ⟨_, (mem_toL (by omega)).2 ⟨p, hp, e⟩, decide_eq_true rfl⟩
  · rintro ⟨t, ht, e⟩
    have e := of_decide_eq_true e
    obtain ⟨p, hp, e2⟩ := (mem_toL (by omega)).1 ht
    exact ⟨p, hp, beq_iff_eq.2 ((key _ _ hc).2 (by omega))⟩
theorem joined_val (k : Nat) (hk : 70 < k) {im : IM} (h : Small im) {a c : Nat} (ha : a < im.1.length) (hc : c < im.1.length) : d65 k (im, (((a + 1 : Nat) : Int), (((c + 1 : Nat) : Int), ()))) = some ((jd im a c, ()), ()) := by
  have := d65_loop k hk im h ((a + 1 : Nat) : Int) ((c + 1 : Nat) : Int) im.2.2.1.length 0 k (by omega) (by have := h.c; omega)
  simp only [d65, shr]
  rw [List.drop_zero] at this
  have e : (im.2.2.1.any (jr im ((a + 1 : Nat) : Int) ((c + 1 : Nat) : Int))) = jd im a c := by
    unfold jd
    congr 1
    funext ch
    exact jr_jn ha hc ch
  rw [e] at this
  exact this
def rowD (im : IM) (a n : Nat) : List Bool := (List.range n).map fun c => jd im a c
def matD (im : IM) (n : Nat) : BM := (List.range n).map fun a => rowD im a im.1.length
theorem dle {i n : Nat} (h : i ≤ n) : decide ((i : Int) ≤ (n : Int)) = true := decide_eq_true (by omega)
theorem dnle {i n : Nat} (h : n < i) : decide ((i : Int) ≤ (n : Int)) = false := decide_eq_false (by omega)
theorem d59_in (k0 : Nat) (hk0 : 70 < k0) {im : IM} (h : Small im) {a : Nat} (ha : a < im.1.length) (rows : BM) (K : (IM × List Bool × BM × Unit) × Int × Unit → Option ((BM × Unit) × Unit)) : ∀ m c k, c + m = im.1.length → m < k →
    loopN (d59_L5 k0 K) k ((im, (rowD im a c, (rows, ()))), (((c + 1 : Nat) : Int), (((a + 1 : Nat) : Int), ()))) = K ((im, (rowD im a im.1.length, (rows, ()))), (((a + 1 : Nat) : Int), ())) := by
  have hn := h.n
  intro m
  induction m with
  | zero =>
    intro c k hc hk
    obtain ⟨k, rfl⟩ : ∃ k', k = k' + 1 := ⟨k - 1, by omega⟩
    obtain rfl : c = im.1.length := by omega
    simp only [loopN, d59_L5, lt, dnle (show im.1.length < im.1.length + 1 by omega), Bool.false_eq_true, if_false]
  | succ m ih =>
    intro c k hc hk
    obtain ⟨k, rfl⟩ : ∃ k', k = k' + 1 := ⟨k - 1, by omega⟩
    have h1 : c < im.1.length := by omega
    have hih := ih (c + 1) k (by omega) (by omega)
    have hl : (rowD im a c).length = c := by unfold rowD; rw [List.length_map, List.length_range]
    have hf : appFits (rowD im a c).length 1 1 = true := by rw [hl]; exact fit1 (by omega) (by omega)
    have et : rowD im a c ++ jd im a c :: [] = rowD im a (c + 1) := by unfold rowD; rw [List.range_succ, List.map_append]; rfl
    simp only [loopN, d59_L5, lt, shr, dle (show c + 1 ≤ im.1.length by omega), if_true, joined_val k0 hk0 h ha h1, Option.bind_some, List.length_cons, List.length_nil, Nat.zero_add, hf, d59_K4, wr1 (show c + 1 < 4611686018427387904 by omega), et]
    exact hih
theorem d59_out (k0 : Nat) (hk0 : 70 < k0) {im : IM} (h : Small im) : ∀ m a k, a + m = im.1.length → m < k →
    loopN (d59_L6 k0 d59_K1) k ((im, (matD im a, ())), (((a + 1 : Nat) : Int), ())) = some ((matD im im.1.length, ()), ()) := by
  have hn := h.n
  intro m
  induction m with
  | zero =>
    intro a k hc hk
    obtain ⟨k, rfl⟩ : ∃ k', k = k' + 1 := ⟨k - 1, by omega⟩
    obtain rfl : a = im.1.length := by omega
    simp only [loopN, d59_L6, lt, dnle (show im.1.length < im.1.length + 1 by omega), Bool.false_eq_true, if_false, d59_K1]
  | succ m ih =>
    intro a k hc hk
    obtain ⟨k, rfl⟩ : ∃ k', k = k' + 1 := ⟨k - 1, by omega⟩
    have h1 : a < im.1.length := by omega
    have hih := ih (a + 1) k (by omega) (by omega)
    have hl : (matD im a).length = a := by unfold matD; rw [List.length_map, List.length_range]
    have hf : appFits (matD im a).length 1 24 = true := by rw [hl]; exact fit1 (by omega) (by omega)
    have et : matD im a ++ rowD im a im.1.length :: [] = matD im (a + 1) := by unfold matD; rw [List.range_succ, List.map_append]; rfl
    have hin := d59_in k0 hk0 h h1 (matD im a) (d59_K3 (d59_K2 (loopN (d59_L6 k0 d59_K1) k))) im.1.length 0 k0 (by omega) (by omega)
    simp only [loopN]
    rw [show d59_L6 k0 d59_K1 (loopN (d59_L6 k0 d59_K1) k) ((im, (matD im a, ())), (((a + 1 : Nat) : Int), ())) = _ from by
      simp only [d59_L6, lt, shr, dle (show a + 1 ≤ im.1.length by omega), if_true]
      exact hin]
    simp only [d59_K3, d59_K2, lt, List.length_cons, List.length_nil, Nat.zero_add, hf, if_true, et, wr1 (show a + 1 < 4611686018427387904 by omega)]
    exact hih
theorem rdirect_val (k : Nat) (hk : 70 < k) {im : IM} (h : Small im) : d59 k (im, ()) = some ((matD im im.1.length, ()), ()) := by
  have := d59_out k hk h im.1.length 0 k (by omega) (by have := h.n; omega)
  simp only [d59, shr]
  exact this
theorem getD_map_range {α : Type} (f : Nat → α) (n i : Nat) (d : α) (h : i < n) : ((List.range n).map f).getD i d = f i := by
  rw [getD_mem (by simpa using h)]
  simp
theorem matD_sq (im : IM) : Sq im.1.length (matD im im.1.length) := by
  refine ⟨by simp [matD], fun i hi => ?_⟩
  unfold matD
  rw [getD_map_range _ _ _ _ hi]
  simp [rowD]
theorem matD_gt {im : IM} {a c : Nat} (ha : a < im.1.length) (hc : c < im.1.length) : gt (matD im im.1.length) a c = jd im a c := by
  unfold gt matD
  rw [getD_map_range _ _ _ _ ha]
  exact getD_map_range _ _ _ _ hc
end Go.Proofs.Ytledeaknnihlmaa.L
