import Derived.Test.YtledeaknnihlmaaDoorFlD
import Derived.Lib.RowBridge
namespace Go.Proofs.YtledeaknnihlmaaDoor.L
open Go Go.Lift
set_option linter.unusedVariables false
set_option linter.unusedSimpArgs false
set_option maxRecDepth 100000

theorem dge0 (i : Nat) : decide ((0 : Int) ≤ (i : Int)) = true := decide_eq_true (by omega)
theorem dlt {i n : Nat} (h : i < n) : decide ((i : Int) < (n : Int)) = true := decide_eq_true (by omega)
theorem dnlt {i n : Nat} (h : n ≤ i) : decide ((i : Int) < (n : Int)) = false := decide_eq_false (by omega)
theorem nlt {i n : Nat} (h : i < n) : decide (i < n) = true := decide_eq_true h
theorem wr1 {i : Nat} (h : i < 4611686018427387904) : IntKind.wrap .i64 ((i : Int) + 1) = ((i + 1 : Nat) : Int) := by
  simp [IntKind.wrap, IntKind.signed, IntKind.bits]; omega
theorem wrI {x : Int} (h : -4611686018427387904 ≤ x) (h2 : x < 4611686018427387904) : IntKind.wrap .i64 (x - 1) = x - 1 := by
  simp [IntKind.wrap, IntKind.signed, IntKind.bits]; omega
theorem fit1 {n b : Nat} (h : (n + 1) * b ≤ 140737488355328) (h2 : n + 1 ≤ 4611686018427387904) : appFits n 1 b = true := by
  simp [appFits, h, h2]

/-! ### squares -/
abbrev BM := List (List Bool)
structure Sq (n : Nat) (M : BM) : Prop where
  len : M.length = n
  row : ∀ i, i < n → (M.getD i []).length = n
def gt (M : BM) (i j : Nat) : Bool := (M.getD i []).getD j false
def st (M : BM) (i j : Nat) (b : Bool) : BM := M.set i ((M.getD i []).set j b)
theorem getD_set {α : Type} (l : List α) (i a : Nat) (x d : α) (hi : i < l.length) : (l.set i x).getD a d = if a = i then x else l.getD a d := by
  simp only [List.getD_eq_getElem?_getD, List.getElem?_set]
  by_cases h : i = a
  · subst h; simp [hi]
  · have h' : ¬ a = i := fun e => h e.symm
    simp [h, h']
theorem Sq.st {n : Nat} {M : BM} (h : Sq n M) {i j : Nat} (hi : i < n) (b : Bool) : Sq n (st M i j b) := by
  refine ⟨by simp [L.st, h.len], fun a ha => ?_⟩
  unfold L.st
  rw [getD_set _ _ _ _ _ (by rw [h.len]; exact hi)]
  split
  · rw [List.length_set]; exact h.row i hi
  · exact h.row a ha
theorem gt_st {n : Nat} {M : BM} (h : Sq n M) {i j : Nat} (hi : i < n) (hj : j < n) (b : Bool) (a c : Nat) : gt (st M i j b) a c = if a = i ∧ c = j then b else gt M a c := by
  unfold gt L.st
  rw [getD_set _ _ _ _ _ (by rw [h.len]; exact hi)]
  by_cases ha : a = i
  · subst ha
    rw [if_pos rfl, getD_set _ _ _ _ _ (by rw [h.row _ hi]; exact hj)]
    simp
  · rw [if_neg ha, if_neg (fun e => ha e.1)]

theorem d27_loop (K : (BM × Unit) × Unit → Option ((BM × Unit) × Unit)) {n : Nat} (hn : n ≤ 40) : ∀ m i k (M : BM), i + m = n → m < k → M.length = n → (∀ a, a < i → (M.getD a []).length = n) →
    ∃ M', Sq n M' ∧ loopN (d27_L3 K) k ((M, ()), ((i : Int), ((n : Int), ((n : Int), ())))) = K ((M', ()), ()) := by
  intro m
  induction m with
  | zero =>
    intro i k M hi hk hM hr
    obtain ⟨k, rfl⟩ : ∃ k', k = k' + 1 := ⟨k - 1, by omega⟩
    refine ⟨M, ⟨hM, fun a ha => hr a (by omega)⟩, ?_⟩
    simp only [loopN, d27_L3, lt, dnlt (show n ≤ i by omega), Bool.false_eq_true, if_false]
  | succ m ih =>
    intro i k M hi hk hM hr
    obtain ⟨k, rfl⟩ : ∃ k', k = k' + 1 := ⟨k - 1, by omega⟩
    have h1 : i < n := by omega
    obtain ⟨M', a1, a2⟩ := ih (i + 1) k (M.set i (List.replicate n false)) (by omega) (by omega) (by simp [hM]) (fun a ha => by
      rw [getD_set _ _ _ _ _ (by omega)]
      split
      · simp
      · exact hr a (by omega))
    refine ⟨M', a1, ?_⟩
    rw [← a2]
    have e1 : decide ((n : Int) ≤ (n : Int)) = true := decide_eq_true (by omega)
    have e2 : decide ((((1 : Nat) : Nat) : Int) * (n : Int) ≤ (281474976710656 : Int)) = true := decide_eq_true (by omega)
    have e3 : decide ((n : Int) ≤ (9223372036854775807 : Int)) = true := decide_eq_true (by omega)
    simp only [loopN, d27_L3, lt, shr, dlt h1, nlt h1, dge0, e1, e2, e3, hM, Bool.and_self, Bool.and_true, if_true, Int.toNat_natCast, d27_K2, wr1 (show i < 4611686018427387904 by omega)]
theorem square_ok {n : Nat} (hn : n ≤ 40) (k : Nat) (hk : n < k) : ∃ M, Sq n M ∧ d27 k ((n : Int), ()) = some ((M, ()), ()) := by
  obtain ⟨M, h1, h2⟩ := d27_loop d27_K1 hn n 0 k (List.replicate n []) (by omega) hk (by simp) (by intro a ha; omega)
  refine ⟨M, h1, ?_⟩
  have e1 : decide ((n : Int) ≤ (n : Int)) = true := decide_eq_true (by omega)
  have e2 : decide ((((24 : Nat) : Nat) : Int) * (n : Int) ≤ (281474976710656 : Int)) = true := decide_eq_true (by omega)
  have e3 : decide ((n : Int) ≤ (9223372036854775807 : Int)) = true := decide_eq_true (by omega)
  simp only [d27, lt, shr, dge0, e1, e2, e3, Bool.and_self, if_true, Int.toNat_natCast, List.length_replicate]
  rw [show ((0 : Int)) = ((0 : Nat) : Int) from rfl, h2]
  rfl

/-! ### channel.part, Parts: they answer -/
theorem part_ok (k : Nat) (im : IM) (p : Int) (hl : im.2.1.length ≤ 70) : ∃ q, d50 k (im, (p, ())) = some ((q, ()), ()) := by
  simp only [d50, lt]
  by_cases h1 : p < 1
  · refine ⟨0, ?_⟩
    simp only [decide_eq_true h1, if_true]
  · have h1' : decide (p < 1) = false := decide_eq_false h1
    by_cases h2 : p > (im.2.1.length : Int)
    · refine ⟨0, ?_⟩
      simp only [h1', decide_eq_true h2, Bool.false_eq_true, if_false, if_true]
    · have h2' : decide (p > (im.2.1.length : Int)) = false := decide_eq_false h2
      have e : IntKind.wrap .i64 (p - 1) = p - 1 := wrI (by omega) (by omega)
      have e1 : decide ((0 : Int) ≤ p - 1) = true := decide_eq_true (by omega)
      have e2 : decide (p - 1 < (im.2.1.length : Int)) = true := decide_eq_true (by omega)
      exact ⟨_, by simp only [h1', h2', e, e1, e2, Bool.false_eq_true, if_false, Bool.and_self, if_true]; rfl⟩

theorem d28_loop (k0 : Nat) (im : IM) (hl : im.2.1.length ≤ 70) (ch : CH) (hc : ch.2.2.1.length ≤ 70) (K : (CH × IM × List Int × Unit) × Unit → Option ((Int × List Int × Int × Unit) × Unit)) : ∀ m i k (out : List Int), i + m = ch.2.2.1.length → m < k → out.length = i →
    ∃ out', out'.length = ch.2.2.1.length ∧ loopN (d28_L4 k0 K) k ((im, (out, (ch, ()))), ((i : Int), (ch.2.2.1, ((ch.2.2.1.length : Int), ())))) = K ((ch, (im, (out', ()))), ()) := by
  intro m
  induction m with
  | zero =>
    intro i k out hi hk ho
    obtain ⟨k, rfl⟩ : ∃ k', k = k' + 1 := ⟨k - 1, by omega⟩
    refine ⟨out, by omega, ?_⟩
    simp only [loopN, d28_L4, lt, dnlt (show ch.2.2.1.length ≤ i by omega), Bool.false_eq_true, if_false]
  | succ m ih =>
    intro i k out hi hk ho
    obtain ⟨k, rfl⟩ : ∃ k', k = k' + 1 := ⟨k - 1, by omega⟩
    have h1 : i < ch.2.2.1.length := by omega
    obtain ⟨q, hq⟩ := part_ok k0 im (ch.2.2.1.getD i 0) hl
    obtain ⟨out', a1, a2⟩ := ih (i + 1) k (out ++ [q]) (by omega) (by omega) (by simp [ho])
    refine ⟨out', a1, ?_⟩
    rw [← a2]
    have ef : appFits out.length 1 8 = true := fit1 (by omega) (by omega)
    simp only [loopN, d28_L4, lt, shr, dlt h1, dge0, Bool.and_self, if_true, Int.toNat_natCast, hq, Option.bind_some, List.length_cons, List.length_nil, Nat.zero_add, ef, d28_K3, wr1 (show i < 4611686018427387904 by omega)]

theorem parts_ok (im : IM) (hl : im.2.1.length ≤ 70) (hch : im.2.2.1.length ≤ 70) (hto : ∀ c ∈ im.2.2.1, c.2.2.1.length ≤ 70) (j : Nat) (hj : j < im.2.2.1.length) (k : Nat) (hk : 70 < k) :
    ∃ f to e, to.length ≤ 71 ∧ d28 k (im, (((j + 1 : Nat) : Int), ())) = some ((f, (to, (e, ()))), ()) := by
  have hcm : im.2.2.1.getD j ((0 : Int), ((0 : Int), (([] : List Int), ((0 : Int), ((0 : Int), ()))))) ∈ im.2.2.1 := by
    rw [List.getD_eq_getElem?_getD, List.getElem?_eq_getElem hj]; exact List.getElem_mem hj
  generalize hch0 : im.2.2.1.getD j ((0 : Int), ((0 : Int), (([] : List Int), ((0 : Int), ((0 : Int), ()))))) = ch at hcm
  have hc := hto ch hcm
  obtain ⟨out, a1, a2⟩ := d28_loop k im hl ch hc (d28_K2 k) ch.2.2.1.length 0 k [] (by omega) (by omega) rfl
  obtain ⟨q, hq⟩ := part_ok k im ch.2.1 hl
  have fin : ∀ l : List Int, l.length ≤ 71 → ∃ f to e, to.length ≤ 71 ∧ d28_K1 k ((l, (ch, (im, ()))), ()) = some ((f, (to, (e, ()))), ()) := fun l h => by
    refine ⟨q, Lib.compact (l.mergeSort fun x y => decide (x ≤ y)), 0, ?_, ?_⟩
    · exact Nat.le_trans (Lib.compact_length_le _) (by rw [List.length_mergeSort]; exact h)
    · simp only [d28_K1, d51, d52, Option.bind_some, hq]
      rw [if_pos (by omega)]
      rfl
  have e1 : decide (((j + 1 : Nat) : Int) < 1) = false := decide_eq_false (by omega)
  have e2 : decide (((j + 1 : Nat) : Int) > (im.2.2.1.length : Int)) = false := decide_eq_false (by omega)
  have e3 : IntKind.wrap .i64 (((j + 1 : Nat) : Int) - 1) = (j : Int) := by rw [wrI (by omega) (by omega)]; omega
  have hd : d28 k (im, (((j + 1 : Nat) : Int), ())) = d28_K2 k ((ch, (im, (out, ()))), ()) := by
    rw [← a2]
    simp only [d28, lt, shr, e1, e2, e3, Bool.false_eq_true, if_false, dge0, dlt hj, Bool.and_self, if_true, Int.toNat_natCast, hch0]
    rfl
  rw [hd]
  by_cases h0 : out.length = 0
  · obtain ⟨f, to, e, b1, b2⟩ := fin [0] (by simp)
    refine ⟨f, to, e, b1, ?_⟩
    rw [← b2]
    have : (((out.length : Nat) : Int) == (0 : Int)) = true := by rw [h0]; rfl
    simp only [d28_K2, lt, shr, this, if_true]
  · obtain ⟨f, to, e, b1, b2⟩ := fin out (by omega)
    refine ⟨f, to, e, b1, ?_⟩
    rw [← b2]
    have : (((out.length : Nat) : Int) == (0 : Int)) = false := by
      rw [beq_eq_false_iff_ne]; omega
    simp only [d28_K2, lt, shr, this, Bool.false_eq_true, if_false]

/-! ### Direct: some square -/
theorem there_eq (k : Nat) (im : IM) (p : Int) : d29 k (im, (p, ())) = some ((decide (1 ≤ p ∧ p ≤ (im.1.length : Int)), ()), ()) := by
  simp only [d29, lt]
  by_cases h1 : p ≥ 1
  · by_cases h2 : p ≤ (im.1.length : Int)
    · simp [h1, h2]
    · simp [h1, h2]
  · have : ¬ (1 ≤ p) := h1
    simp [this]

theorem d8_loop1 (k0 : Nat) (im : IM) {n : Nat} (hn : im.1.length = n) (hn40 : n ≤ 40) (to : List Int) (hto : to.length ≤ 71) (fr A B : Int) (K : (BM × IM × Unit) × Int × Int × Unit → Option ((BM × Unit) × Unit)) : ∀ m i k (M : BM), i + m = to.length → m < k → Sq n M →
    ∃ M', Sq n M' ∧ loopN (d8_L6 k0 K) k ((M, (im, (to, ()))), ((i : Int), (fr, (A, (B, ((to.length : Int), ())))))) = K ((M', (im, ())), (A, (B, ()))) := by
  intro m
  induction m with
  | zero =>
    intro i k M hi hk hM
    obtain ⟨k, rfl⟩ : ∃ k', k = k' + 1 := ⟨k - 1, by omega⟩
    refine ⟨M, hM, ?_⟩
    simp only [loopN, d8_L6, lt, dnlt (show to.length ≤ i by omega), Bool.false_eq_true, if_false]
  | succ m ih =>
    intro i k M hi hk hM
    obtain ⟨k, rfl⟩ : ∃ k', k = k' + 1 := ⟨k - 1, by omega⟩
    have h1 : i < to.length := by omega
    generalize hv : to.getD i 0 = v
    by_cases hf : 1 ≤ fr ∧ fr ≤ (n : Int)
    · by_cases ht : 1 ≤ v ∧ v ≤ (n : Int)
      · obtain ⟨a, ha⟩ : ∃ a : Nat, fr = (a : Int) + 1 := ⟨(fr - 1).toNat, by omega⟩
        obtain ⟨b, hb⟩ : ∃ b : Nat, v = (b : Int) + 1 := ⟨(v - 1).toNat, by omega⟩
        have ha' : a < n := by omega
        have hb' : b < n := by omega
        have ea : IntKind.wrap .i64 (fr - 1) = (a : Int) := by rw [wrI (by omega) (by omega)]; omega
        have eb : IntKind.wrap .i64 (v - 1) = (b : Int) := by rw [wrI (by omega) (by omega)]; omega
        have hrow := hM.row a ha'
        obtain ⟨M', a1, a2⟩ := ih (i + 1) k (st M a b true) (by omega) (by omega) (hM.st ha' _)
        refine ⟨M', a1, ?_⟩
        rw [← a2]
        have d1 : decide (1 ≤ fr ∧ fr ≤ ((im.1.length : Nat) : Int)) = true := decide_eq_true (by rw [hn]; exact hf)
        have d2 : decide (1 ≤ v ∧ v ≤ ((im.1.length : Nat) : Int)) = true := decide_eq_true (by rw [hn]; exact ht)
        simp only [loopN, d8_L6, lt, shr, dlt h1, nlt h1, dge0, Bool.and_self, Bool.and_true, if_true, Int.toNat_natCast, hv, there_eq, Option.bind_some, d1, d2, beq_self_eq_true, ea, eb, hM.len, hrow, dlt ha', nlt ha', dlt hb', nlt hb', d8_K4, d8_K5, wr1 (show i < 4611686018427387904 by omega), st]
      · obtain ⟨M', a1, a2⟩ := ih (i + 1) k M (by omega) (by omega) hM
        refine ⟨M', a1, ?_⟩
        rw [← a2]
        have d1 : decide (1 ≤ fr ∧ fr ≤ ((im.1.length : Nat) : Int)) = true := decide_eq_true (by rw [hn]; exact hf)
        have d2 : decide (1 ≤ v ∧ v ≤ ((im.1.length : Nat) : Int)) = false := decide_eq_false (by rw [hn]; exact ht)
        simp only [loopN, d8_L6, lt, shr, dlt h1, nlt h1, dge0, Bool.and_self, Bool.and_true, if_true, Int.toNat_natCast, hv, there_eq, Option.bind_some, d1, d2, beq_self_eq_true, Bool.false_eq_true, if_false, d8_K4, d8_K5, wr1 (show i < 4611686018427387904 by omega)]
    · obtain ⟨M', a1, a2⟩ := ih (i + 1) k M (by omega) (by omega) hM
      refine ⟨M', a1, ?_⟩
      rw [← a2]
      have d1 : decide (1 ≤ fr ∧ fr ≤ ((im.1.length : Nat) : Int)) = false := decide_eq_false (by rw [hn]; exact hf)
      simp only [loopN, d8_L6, lt, shr, dlt h1, nlt h1, dge0, Bool.and_self, Bool.and_true, if_true, Int.toNat_natCast, hv, there_eq, Option.bind_some, d1, Bool.false_beq, Bool.not_true, Bool.false_and, Bool.false_eq_true, if_false, d8_K4, d8_K5, wr1 (show i < 4611686018427387904 by omega)]
theorem d8_loop2 (im : IM) {n : Nat} (hn : im.1.length = n) (hn40 : n ≤ 40) (hl : im.2.1.length ≤ 70) (hch : im.2.2.1.length ≤ 70) (hto : ∀ c ∈ im.2.2.1, c.2.2.1.length ≤ 70) (k0 : Nat) (hk0 : 71 < k0) (K : (BM × Unit) × Unit → Option ((BM × Unit) × Unit)) : ∀ m i k (M : BM), i + m = im.2.2.1.length → m < k → Sq n M →
    ∃ M', Sq n M' ∧ loopN (d8_L7 k0 K) k ((M, (im, ())), ((i : Int), ((im.2.2.1.length : Int), ()))) = K ((M', ()), ()) := by
  intro m
  induction m with
  | zero =>
    intro i k M hi hk hM
    obtain ⟨k, rfl⟩ : ∃ k', k = k' + 1 := ⟨k - 1, by omega⟩
    refine ⟨M, hM, ?_⟩
    simp only [loopN, d8_L7, lt, dnlt (show im.2.2.1.length ≤ i by omega), Bool.false_eq_true, if_false]
  | succ m ih =>
    intro i k M hi hk hM
    obtain ⟨k, rfl⟩ : ∃ k', k = k' + 1 := ⟨k - 1, by omega⟩
    have h1 : i < im.2.2.1.length := by omega
    obtain ⟨f, to, e, b1, b2⟩ := parts_ok im hl hch hto i h1 k0 (by omega)
    obtain ⟨M1, c1, c2⟩ := d8_loop1 k0 im hn hn40 to b1 f ((im.2.2.1.length : Nat) : Int) (i : Int) (d8_K3 (d8_K2 (loopN (d8_L7 k0 K) k))) to.length 0 k0 M (by omega) (by omega) hM
    obtain ⟨M', a1, a2⟩ := ih (i + 1) k M1 (by omega) (by omega) c1
    refine ⟨M', a1, ?_⟩
    rw [← a2]
    simp only [loopN]
    rw [show d8_L7 k0 K (loopN (d8_L7 k0 K) k) ((M, (im, ())), ((i : Int), ((im.2.2.1.length : Int), ()))) = _ from by
      simp only [d8_L7, lt, shr, dlt h1, if_true, wr1 (show i < 4611686018427387904 by omega), b2, Option.bind_some]
      exact c2]
    simp only [d8_K3, d8_K2, wr1 (show i < 4611686018427387904 by omega)]
structure Small (im : IM) : Prop where
  n : im.1.length ≤ 40
  p : im.2.1.length ≤ 70
  c : im.2.2.1.length ≤ 70
  t : ∀ c ∈ im.2.2.1, c.2.2.1.length ≤ 70
theorem direct_ok {im : IM} (h : Small im) (k : Nat) (hk : 71 < k) : ∃ M, Sq im.1.length M ∧ d8 k (im, ()) = some ((M, ()), ()) := by
  obtain ⟨M0, a1, a2⟩ := square_ok (n := im.1.length) h.n k (by have := h.n; omega)
  obtain ⟨M, b1, b2⟩ := d8_loop2 im rfl h.n h.p h.c h.t k hk d8_K1 im.2.2.1.length 0 k M0 (by omega) (by have := h.c; omega) a1
  refine ⟨M, b1, ?_⟩
  simp only [d8, a2, Option.bind_some, shr]
  exact b2
end Go.Proofs.YtledeaknnihlmaaDoor.L
