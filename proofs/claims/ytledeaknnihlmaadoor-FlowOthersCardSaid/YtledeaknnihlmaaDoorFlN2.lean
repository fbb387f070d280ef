import Derived.Test.YtledeaknnihlmaaDoorFlN
namespace Go.Proofs.YtledeaknnihlmaaDoor.L
open Go Go.Lift
set_option linter.unusedVariables false
set_option linter.unusedSimpArgs false
set_option maxRecDepth 100000

/-! ### Direct hangs on the number of partitions, the ports and the channels alone -/
abbrev TL : Type := (List PO) × ((List CH) × Unit)
theorem part_ok' (k : Nat) (tl : TL) (p : Int) (hl : tl.1.length ≤ 70) : ∃ q, ∀ pa : List PA, d50 k ((pa, tl), (p, ())) = some ((q, ()), ()) := by
  obtain ⟨q, hq⟩ := part_ok k ([], tl) p hl
  exact ⟨q, fun pa => hq⟩
theorem d28_loop' (k0 : Nat) (tl : TL) (hl : tl.1.length ≤ 70) (ch : CH) (hc : ch.2.2.1.length ≤ 70) : ∀ m i k (out : List Int), i + m = ch.2.2.1.length → m < k → out.length = i →
    ∃ out', out'.length = ch.2.2.1.length ∧ ∀ (pa : List PA) (K : (CH × IM × List Int × Unit) × Unit → Option ((Int × List Int × Int × Unit) × Unit)), loopN (d28_L4 k0 K) k (((pa, tl), (out, (ch, ()))), ((i : Int), (ch.2.2.1, ((ch.2.2.1.length : Int), ())))) = K ((ch, ((pa, tl), (out', ()))), ()) := by
  intro m
  induction m with
  | zero =>
    intro i k out hi hk ho
    obtain ⟨k, rfl⟩ : ∃ k', k = k' + 1 := ⟨k - 1, by omega⟩
    refine ⟨out, by omega, fun pa K => ?_⟩
    simp only [loopN, d28_L4, lt, dnlt (show ch.2.2.1.length ≤ i by omega), Bool.false_eq_true, if_false]
  | succ m ih =>
    intro i k out hi hk ho
    obtain ⟨k, rfl⟩ : ∃ k', k = k' + 1 := ⟨k - 1, by omega⟩
    have h1 : i < ch.2.2.1.length := by omega
    obtain ⟨q, hq⟩ := part_ok' k0 tl (ch.2.2.1.getD i 0) hl
    obtain ⟨out', a1, a2⟩ := ih (i + 1) k (out ++ [q]) (by omega) (by omega) (by simp [ho])
    refine ⟨out', a1, fun pa K => ?_⟩
    rw [← a2 pa K]
    have ef : appFits out.length 1 8 = true := fit1 (by omega) (by omega)
    simp only [loopN, d28_L4, lt, shr, dlt h1, dge0, Bool.and_self, if_true, Int.toNat_natCast, hq pa, Option.bind_some, List.length_cons, List.length_nil, Nat.zero_add, ef, d28_K3, wr1 (show i < 4611686018427387904 by omega)]
theorem parts_ok' (tl : TL) (hl : tl.1.length ≤ 70) (hch : tl.2.1.length ≤ 70) (hto : ∀ c ∈ tl.2.1, c.2.2.1.length ≤ 70) (j : Nat) (hj : j < tl.2.1.length) (k : Nat) (hk : 70 < k) :
    ∃ f to e, to.length ≤ 71 ∧ ∀ pa : List PA, d28 k ((pa, tl), (((j + 1 : Nat) : Int), ())) = some ((f, (to, (e, ()))), ()) := by
  have hcm : tl.2.1.getD j ((0 : Int), ((0 : Int), (([] : List Int), ((0 : Int), ((0 : Int), ()))))) ∈ tl.2.1 := by
    rw [List.getD_eq_getElem?_getD, List.getElem?_eq_getElem hj]; exact List.getElem_mem hj
  generalize hch0 : tl.2.1.getD j ((0 : Int), ((0 : Int), (([] : List Int), ((0 : Int), ((0 : Int), ()))))) = ch at hcm
  have hc := hto ch hcm
  obtain ⟨out, a1, a2⟩ := d28_loop' k tl hl ch hc ch.2.2.1.length 0 k [] (by omega) (by omega) rfl
  obtain ⟨q, hq⟩ := part_ok' k tl ch.2.1 hl
  have fin : ∀ l : List Int, l.length ≤ 71 → ∃ f to e, to.length ≤ 71 ∧ ∀ pa : List PA, d28_K1 k ((l, (ch, ((pa, tl), ()))), ()) = some ((f, (to, (e, ()))), ()) := fun l h => by
    refine ⟨q, Lib.compact (l.mergeSort fun x y => decide (x ≤ y)), 0, ?_, fun pa => ?_⟩
    · exact Nat.le_trans (Lib.compact_length_le _) (by rw [List.length_mergeSort]; exact h)
    · simp only [d28_K1, d51, d52, Option.bind_some, hq pa]
      rw [if_pos (by omega)]
      rfl
  have e1 : decide (((j + 1 : Nat) : Int) < 1) = false := decide_eq_false (by omega)
  have e2 : decide (((j + 1 : Nat) : Int) > (tl.2.1.length : Int)) = false := decide_eq_false (by omega)
  have e3 : IntKind.wrap .i64 (((j + 1 : Nat) : Int) - 1) = (j : Int) := by rw [wrI (by omega) (by omega)]; omega
  have hd : ∀ pa : List PA, d28 k ((pa, tl), (((j + 1 : Nat) : Int), ())) = d28_K2 k ((ch, ((pa, tl), (out, ()))), ()) := fun pa => by
    rw [← a2 pa (d28_K2 k)]
    simp only [d28, lt, shr, e1, e2, e3, Bool.false_eq_true, if_false, dge0, dlt hj, Bool.and_self, if_true, Int.toNat_natCast, hch0]
    rfl
  by_cases h0 : out.length = 0
  · obtain ⟨f, to, e, b1, b2⟩ := fin [0] (by simp)
    refine ⟨f, to, e, b1, fun pa => ?_⟩
    rw [hd, ← b2 pa]
    have : (((out.length : Nat) : Int) == (0 : Int)) = true := by rw [h0]; rfl
    simp only [d28_K2, lt, shr, this, if_true]
  · obtain ⟨f, to, e, b1, b2⟩ := fin out (by omega)
    refine ⟨f, to, e, b1, fun pa => ?_⟩
    rw [hd, ← b2 pa]
    have : (((out.length : Nat) : Int) == (0 : Int)) = false := by
      rw [beq_eq_false_iff_ne]; omega
    simp only [d28_K2, lt, shr, this, Bool.false_eq_true, if_false]
theorem d8_loop1' (k0 : Nat) (tl : TL) {n : Nat} (hn40 : n ≤ 40) (to : List Int) (hto : to.length ≤ 71) (fr : Int) : ∀ m i k (M : BM), i + m = to.length → m < k → Sq n M →
    ∃ M', Sq n M' ∧ ∀ (pa : List PA), pa.length = n → ∀ (A B : Int) (K : (BM × IM × Unit) × Int × Int × Unit → Option ((BM × Unit) × Unit)), loopN (d8_L6 k0 K) k ((M, ((pa, tl), (to, ()))), ((i : Int), (fr, (A, (B, ((to.length : Int), ())))))) = K ((M', ((pa, tl), ())), (A, (B, ()))) := by
  intro m
  induction m with
  | zero =>
    intro i k M hi hk hM
    obtain ⟨k, rfl⟩ : ∃ k', k = k' + 1 := ⟨k - 1, by omega⟩
    refine ⟨M, hM, fun pa hn A B K => ?_⟩
    simp only [loopN, d8_L6, lt, dnlt (show to.length ≤ i by omega), Bool.false_eq_true, if_false]
  | succ m ih =>
    intro i k M hi hk hM
    obtain ⟨k, rfl⟩ : ∃ k', k = k' + 1 := ⟨k - 1, by omega⟩
    have h1 : i < to.length := by omega
    generalize hv : to.getD i 0 = v
    by_cases hf : 1 ≤ fr ∧ fr ≤ (n : Int)
    · by_cases ht : 1 ≤ v ∧ v ≤ (n : Int)
      · obtain ⟨a, ha⟩ : ∃ a : Nat, fr = (a : Int) + 1 := ⟨(fr - 1).toNat, by omega⟩
        obtain ⟨b, hb⟩ : ∃ b : Nat, v = (b : Int) + 1 := ⟨(v - 1).toNat, by omega⟩
        have ha' : a < n := by omega
        have hb' : b < n := by omega
        have ea : IntKind.wrap .i64 (fr - 1) = (a : Int) := by rw [wrI (by omega) (by omega)]; omega
        have eb : IntKind.wrap .i64 (v - 1) = (b : Int) := by rw [wrI (by omega) (by omega)]; omega
        have hrow := hM.row a ha'
        obtain ⟨M', a1, a2⟩ := ih (i + 1) k (st M a b true) (by omega) (by omega) (hM.st ha' _)
        refine ⟨M', a1, fun pa hn A B K => ?_⟩
        rw [← a2 pa hn A B K]
        have d1 : decide (1 ≤ fr ∧ fr ≤ ((pa.length : Nat) : Int)) = true := decide_eq_true (by rw [hn]; exact hf)
        have d2 : decide (1 ≤ v ∧ v ≤ ((pa.length : Nat) : Int)) = true := decide_eq_true (by rw [hn]; exact ht)
        simp only [loopN, d8_L6, lt, shr, dlt h1, nlt h1, dge0, Bool.and_self, Bool.and_true, if_true, Int.toNat_natCast, hv, there_eq, Option.bind_some, d1, d2, beq_self_eq_true, ea, eb, hM.len, hrow, dlt ha', nlt ha', dlt hb', nlt hb', d8_K4, d8_K5, wr1 (show i < 4611686018427387904 by omega), st]
      · obtain ⟨M', a1, a2⟩ := ih (i + 1) k M (by omega) (by omega) hM
        refine ⟨M', a1, fun pa hn A B K => ?_⟩
        rw [← a2 pa hn A B K]
        have d1 : decide (1 ≤ fr ∧ fr ≤ ((pa.length : Nat) : Int)) = true := decide_eq_true (by rw [hn]; exact hf)
        have d2 : decide (1 ≤ v ∧ v ≤ ((pa.length : Nat) : Int)) = false := decide_eq_false (by rw [hn]; exact ht)
        simp only [loopN, d8_L6, lt, shr, dlt h1, nlt h1, dge0, Bool.and_self, Bool.and_true, if_true, Int.toNat_natCast, hv, there_eq, Option.bind_some, d1, d2, beq_self_eq_true, Bool.false_eq_true, if_false, d8_K4, d8_K5, wr1 (show i < 4611686018427387904 by omega)]
    · obtain ⟨M', a1, a2⟩ := ih (i + 1) k M (by omega) (by omega) hM
      refine ⟨M', a1, fun pa hn A B K => ?_⟩
      rw [← a2 pa hn A B K]
      have d1 : decide (1 ≤ fr ∧ fr ≤ ((pa.length : Nat) : Int)) = false := decide_eq_false (by rw [hn]; exact hf)
      simp only [loopN, d8_L6, lt, shr, dlt h1, nlt h1, dge0, Bool.and_self, Bool.and_true, if_true, Int.toNat_natCast, hv, there_eq, Option.bind_some, d1, Bool.false_beq, Bool.not_true, Bool.false_and, Bool.false_eq_true, if_false, d8_K4, d8_K5, wr1 (show i < 4611686018427387904 by omega)]
theorem d8_loop2' (tl : TL) {n : Nat} (hn40 : n ≤ 40) (hl : tl.1.length ≤ 70) (hch : tl.2.1.length ≤ 70) (hto : ∀ c ∈ tl.2.1, c.2.2.1.length ≤ 70) (k0 : Nat) (hk0 : 71 < k0) : ∀ m i k (M : BM), i + m = tl.2.1.length → m < k → Sq n M →
    ∃ M', Sq n M' ∧ ∀ (pa : List PA), pa.length = n → ∀ (K : (BM × Unit) × Unit → Option ((BM × Unit) × Unit)), loopN (d8_L7 k0 K) k ((M, ((pa, tl), ())), ((i : Int), ((tl.2.1.length : Int), ()))) = K ((M', ()), ()) := by
  intro m
  induction m with
  | zero =>
    intro i k M hi hk hM
    obtain ⟨k, rfl⟩ : ∃ k', k = k' + 1 := ⟨k - 1, by omega⟩
    refine ⟨M, hM, fun pa hn K => ?_⟩
    simp only [loopN, d8_L7, lt, dnlt (show tl.2.1.length ≤ i by omega), Bool.false_eq_true, if_false]
  | succ m ih =>
    intro i k M hi hk hM
    obtain ⟨k, rfl⟩ : ∃ k', k = k' + 1 := ⟨k - 1, by omega⟩
    have h1 : i < tl.2.1.length := by omega
    obtain ⟨f, to, e, b1, b2⟩ := parts_ok' tl hl hch hto i h1 k0 (by omega)
    obtain ⟨M1, c1, c2⟩ := d8_loop1' k0 tl hn40 to b1 f to.length 0 k0 M (by omega) (by omega) hM
    obtain ⟨M', a1, a2⟩ := ih (i + 1) k M1 (by omega) (by omega) c1
    refine ⟨M', a1, fun pa hn K => ?_⟩
    rw [← a2 pa hn K]
    simp only [loopN]
    rw [show d8_L7 k0 K (loopN (d8_L7 k0 K) k) ((M, ((pa, tl), ())), ((i : Int), ((tl.2.1.length : Int), ()))) = _ from by
      simp only [d8_L7, lt, shr, dlt h1, if_true, wr1 (show i < 4611686018427387904 by omega), b2 pa, Option.bind_some]
      exact c2 pa hn ((tl.2.1.length : Nat) : Int) (i : Int) (d8_K3 (d8_K2 (loopN (d8_L7 k0 K) k)))]
    simp only [d8_K3, d8_K2, wr1 (show i < 4611686018427387904 by omega)]
theorem direct_same {im : IM} (h : Small im) (pa : List PA) (hp : pa.length = im.1.length) (k : Nat) (hk : 71 < k) : d8 k ((pa, im.2), ()) = d8 k (im, ()) := by
  obtain ⟨M0, a1, a2⟩ := square_ok (n := im.1.length) h.n k (by have := h.n; omega)
  obtain ⟨M, b1, b2⟩ := d8_loop2' im.2 h.n h.p h.c h.t k hk im.2.2.1.length 0 k M0 (by omega) (by have := h.c; omega) a1
  have key : ∀ q : List PA, q.length = im.1.length → d8 k ((q, im.2), ()) = some ((M, ()), ()) := fun q hq => by
    simp only [d8, hq, a2, Option.bind_some, shr]
    exact b2 q hq d8_K1
  rw [key pa hp]
  exact (key im.1 rfl).symm
theorem reach_same {im : IM} (h : Small im) (pa : List PA) (hp : pa.length = im.1.length) (k : Nat) (hk : 71 < k) : d9 k ((pa, im.2), ()) = d9 k (im, ()) := by
  simp only [d9, direct_same h pa hp k hk]

/-! ### Alike -/
theorem d25_loop (k0 : Nat) {n : Nat} (hn : n ≤ 40) (a b : IM) (ha : a.1.length = n) (hb : b.1.length = n) (l : List Int) (hl : l.length ≤ 40) (al : Int → Bool)
    (h : ∀ s ∈ l, ∃ p : Nat, p < n ∧ s = (p : Int) + 1 ∧ ∀ d : PA, d49 k0 (a.1.getD p d, (b.1.getD p d, ())) = some ((al s, ()), ())) : ∀ m i k, i + m = l.length → m < k →
    loopN (d25_L3 k0 d25_K1) k ((b, (a, (l, ()))), ((i : Int), ((l.length : Int), ()))) = some (((l.drop i).all al, ((0 : Int), ())), ()) := by
  intro m
  induction m with
  | zero =>
    intro i k hi hk
    obtain ⟨k, rfl⟩ : ∃ k', k = k' + 1 := ⟨k - 1, by omega⟩
    rw [List.drop_eq_nil_of_le (by omega)]
    simp only [loopN, d25_L3, lt, dnlt (show l.length ≤ i by omega), Bool.false_eq_true, if_false, d25_K1, List.all_nil]
  | succ m ih =>
    intro i k hi hk
    obtain ⟨k, rfl⟩ : ∃ k', k = k' + 1 := ⟨k - 1, by omega⟩
    have h1 : i < l.length := by omega
    obtain ⟨p, hp, hs, hd⟩ := h l[i] (List.getElem_mem h1)
    have g1 : l.getD i 0 = l[i] := by rw [List.getD_eq_getElem?_getD, List.getElem?_eq_getElem h1]; rfl
    have ep : IntKind.wrap .i64 (l[i] - 1) = (p : Int) := by rw [wrI (by omega) (by omega)]; omega
    rw [List.drop_eq_getElem_cons h1, List.all_cons]
    cases hal : al l[i] with
    | false =>
      simp only [loopN, d25_L3, lt, shr, dlt h1, nlt h1, dge0, Bool.and_self, Bool.and_true, if_true, Int.toNat_natCast, g1, ep, ha, hb, dlt hp, hd, hal, Option.bind_some, Bool.not_false, Bool.false_and]
    | true =>
      rw [Bool.true_and, ← ih (i + 1) k (by omega) (by omega)]
      simp only [loopN, d25_L3, lt, shr, dlt h1, nlt h1, dge0, Bool.and_self, Bool.and_true, if_true, Int.toNat_natCast, g1, ep, ha, hb, dlt hp, hd, hal, Option.bind_some, Bool.not_true, Bool.false_eq_true, if_false, d25_K2, wr1 (show i < 4611686018427387904 by omega)]
theorem alike_ok {k : Nat} (hk : 71 < k) {a b : IM} (hs : Small a) (hb : b.1.length = a.1.length) (ht : b.2 = a.2) (hsv : ∀ i, i < a.1.length → ∀ d : PA, (a.1.getD i d).1 = (b.1.getD i d).1) {part : Int} {l : List Int} (h12 : d12 k (a, (part, ())) = some ((l, (0, ())), ())) (hl : l.length ≤ 40) (al : Int → Bool)
    (h : ∀ s ∈ l, ∃ p : Nat, p < a.1.length ∧ s = (p : Int) + 1 ∧ ∀ d : PA, d49 k (a.1.getD p d, (b.1.getD p d, ())) = some ((al s, ()), ())) : d25 k (a, (b, (part, ()))) = some ((l.all al, (0, ())), ()) := by
  have hn := hs.n
  have h43 := e43 k hn (by omega) a.1 b.1 rfl hb hsv
  have h45 := e45 k (by omega) a.2.2.1 hs.c hs.t
  have h48 := e48 a.2.1 (by have := hs.p; omega) k (by have := hs.p; omega)
  have := d25_loop k hn a b rfl hb l hl al h l.length 0 k (by omega) (by omega)
  have t1 : b.2.1 = a.2.1 := by rw [ht]
  have t2 : b.2.2.1 = a.2.2.1 := by rw [ht]
  simp only [d25, h12, Option.bind_some, lt, shr, bne_self_eq_false, Bool.false_eq_true, if_false, h43, t2, h45, Bool.not_true, beq_self_eq_true, Bool.and_self, if_true, t1, h48]
  exact this
end Go.Proofs.YtledeaknnihlmaaDoor.L
