import Derived.Test.YtledeaknnihlmaaFaD
import Derived.Lib.RowBridge
namespace Go.Proofs.Ytledeaknnihlmaa.L
open Go Go.Lift
set_option linter.unusedVariables false
set_option linter.unusedSimpArgs false
set_option maxRecDepth 100000

theorem dge0 (i : Nat) : decide ((0 : Int) ≤ (i : Int)) = true := decide_eq_true (by omega)
theorem dlt {i n : Nat} (h : i < n) : decide ((i : Int) < (n : Int)) = true := decide_eq_true (by omega)
theorem dnlt {i n : Nat} (h : n ≤ i) : decide ((i : Int) < (n : Int)) = false := decide_eq_false (by omega)
theorem nlt {i n : Nat} (h : i < n) : decide (i < n) = true := decide_eq_true h
theorem wr1 {i : Nat} (h : i < 4611686018427387904) : IntKind.wrap .i64 ((i : Int) + 1) = ((i + 1 : Nat) : Int) := by
  simp [IntKind.wrap, IntKind.signed, IntKind.bits]; omega
theorem wrI {x : Int} (h : -4611686018427387904 ≤ x) (h2 : x < 4611686018427387904) : IntKind.wrap .i64 (x - 1) = x - 1 := by
  simp [IntKind.wrap, IntKind.signed, IntKind.bits]; omega
theorem fit1 {n b : Nat} (h : (n + 1) * b ≤ 140737488355328) (h2 : n + 1 ≤ 4611686018427387904) : appFits n 1 b = true := by
  simp [appFits, h, h2]

/-! ### squares -/
abbrev BM := List (List Bool)
structure Sq (n : Nat) (M : BM) : Prop where
  len : M.length = n
  row : ∀ i, i < n → (M.getD i []).length = n
def gt (M : BM) (i j : Nat) : Bool := (M.getD i []).getD j false
def st (M : BM) (i j : Nat) (b : Bool) : BM := M.set i ((M.getD i []).set j b)
theorem getD_set {α : Type} (l : List α) (i a : Nat) (x d : α) (hi : i < l.length) : (l.set i x).getD a d = if a = i then x else l.getD a d := by
  simp only [List.getD_eq_getElem?_getD, List.getElem?_set]
  by_cases h : i = a
  · subst h; simp [hi]
  · have h' : ¬ a = i := fun e => h e.symm
    simp [h, h']
theorem Sq.st {n : Nat} {M : BM} (h : Sq n M) {i j : Nat} (hi : i < n) (b : Bool) : Sq n (st M i j b) := by
  refine ⟨by simp [L.st, h.len], fun a ha => ?_⟩
  unfold L.st
  rw [getD_set _ _ _ _ _ (by rw [h.len]; exact hi)]
  split
  · rw [List.length_set]; exact h.row i hi
  · exact h.row a ha
theorem gt_st {n : Nat} {M : BM} (h : Sq n M) {i j : Nat} (hi : i < n) (hj : j < n) (b : Bool) (a c : Nat) : gt (st M i j b) a c = if a = i ∧ c = j then b else gt M a c := by
  unfold gt L.st
  rw [getD_set _ _ _ _ _ (by rw [h.len]; exact hi)]
  by_cases ha : a = i
  · subst ha
    rw [if_pos rfl, getD_set _ _ _ _ _ (by rw [h.row _ hi]; exact hj)]
    simp
  · rw [if_neg ha, if_neg (fun e => ha e.1)]

theorem d62_loop (K : (BM × Unit) × Unit → Option ((BM × Unit) × Unit)) {n : Nat} (hn : n ≤ 40) : ∀ m i k (M : BM), i + m = n → m < k → M.length = n → (∀ a, a < i → (M.getD a []).length = n) → (∀ a c, gt M a c = false) →
    ∃ M', Sq n M' ∧ (∀ a c, gt M' a c = false) ∧ loopN (d62_L3 K) k ((M, ()), ((i : Int), ((n : Int), ((n : Int), ())))) = K ((M', ()), ()) := by
  intro m
  induction m with
  | zero =>
    intro i k M hi hk hM hr hz
    obtain ⟨k, rfl⟩ : ∃ k', k = k' + 1 := ⟨k - 1, by omega⟩
    refine ⟨M, ⟨hM, fun a ha => hr a (by omega)⟩, hz, ?_⟩
    simp only [loopN, d62_L3, lt, dnlt (show n ≤ i by omega), Bool.false_eq_true, if_false]
  | succ m ih =>
    intro i k M hi hk hM hr hz
    obtain ⟨k, rfl⟩ : ∃ k', k = k' + 1 := ⟨k - 1, by omega⟩
    have h1 : i < n := by omega
    obtain ⟨M', a1, a3, a2⟩ := ih (i + 1) k (M.set i (List.replicate n false)) (by omega) (by omega) (by simp [hM]) (fun a ha => by
      rw [getD_set _ _ _ _ _ (by omega)]
      split
      · simp
      · exact hr a (by omega)) (fun a c => by
      unfold gt
      rw [getD_set _ _ _ _ _ (by omega)]
      split
      · simp only [List.getD_eq_getElem?_getD, List.getElem?_replicate]
        split <;> rfl
      · exact hz a c)
    refine ⟨M', a1, a3, ?_⟩
    rw [← a2]
    have e1 : decide ((n : Int) ≤ (n : Int)) = true := decide_eq_true (by omega)
    have e2 : decide ((((1 : Nat) : Nat) : Int) * (n : Int) ≤ (281474976710656 : Int)) = true := decide_eq_true (by omega)
    have e3 : decide ((n : Int) ≤ (9223372036854775807 : Int)) = true := decide_eq_true (by omega)
    simp only [loopN, d62_L3, lt, shr, dlt h1, nlt h1, dge0, e1, e2, e3, hM, Bool.and_self, Bool.and_true, if_true, Int.toNat_natCast, d62_K2, wr1 (show i < 4611686018427387904 by omega)]
theorem square_ok {n : Nat} (hn : n ≤ 40) (k : Nat) (hk : n < k) : ∃ M, Sq n M ∧ (∀ a c, gt M a c = false) ∧ d62 k ((n : Int), ()) = some ((M, ()), ()) := by
  obtain ⟨M, h1, h3, h2⟩ := d62_loop d62_K1 hn n 0 k (List.replicate n []) (by omega) hk (by simp) (by intro a ha; omega) (fun a c => by
    unfold gt
    simp only [List.getD_eq_getElem?_getD, List.getElem?_replicate]
    split <;> rfl)
  refine ⟨M, h1, h3, ?_⟩
  have e1 : decide ((n : Int) ≤ (n : Int)) = true := decide_eq_true (by omega)
  have e2 : decide ((((24 : Nat) : Nat) : Int) * (n : Int) ≤ (281474976710656 : Int)) = true := decide_eq_true (by omega)
  have e3 : decide ((n : Int) ≤ (9223372036854775807 : Int)) = true := decide_eq_true (by omega)
  simp only [d62, lt, shr, dge0, e1, e2, e3, Bool.and_self, if_true, Int.toNat_natCast, List.length_replicate]
  rw [show ((0 : Int)) = ((0 : Nat) : Int) from rfl, h2]
  rfl

/-! ### channel.part, Parts: they answer -/
/-! ### sorted, and each once -/
theorem bang {l : List Int} {i : Nat} (h : i < l.length) : l.toArray[i]! = l[i] := by simp [h]
theorem compact_mem (l : List Int) : ∀ (j : Nat) (h : j < l.length), l[j] ∈ Lib.compact l := by
  intro j
  induction j with
  | zero =>
    intro h
    unfold Lib.compact Lib.compactUpTo
    exact List.mem_map.2 ⟨0, List.mem_filter.2 ⟨List.mem_range.2 h, by simp [Lib.keeps]⟩, bang h⟩
  | succ j ih =>
    intro h
    by_cases e : l[j + 1] = l[j]
    · rw [e]; exact ih (by omega)
    · unfold Lib.compact Lib.compactUpTo
      refine List.mem_map.2 ⟨j + 1, List.mem_filter.2 ⟨List.mem_range.2 h, ?_⟩, bang h⟩
      simp only [Lib.keeps, Nat.add_sub_cancel, bang h, bang (show j < l.length by omega)]
      simp [e, fun h => e (Eq.symm h)]
theorem mem_of_compact {l : List Int} {t : Int} (h : t ∈ Lib.compact l) : t ∈ l := by
  unfold Lib.compact Lib.compactUpTo at h
  obtain ⟨j, hj, rfl⟩ := List.mem_map.1 h
  have hj := List.mem_range.1 (List.mem_filter.1 hj).1
  rw [bang hj]
  exact List.getElem_mem hj
theorem mem_compact {l : List Int} {t : Int} : t ∈ Lib.compact l ↔ t ∈ l := by
  refine ⟨mem_of_compact, fun h => ?_⟩
  obtain ⟨j, hj, rfl⟩ := List.mem_iff_getElem.1 h
  exact compact_mem l j hj

/-! ### a port's partition, a channel's -/
theorem getD_mem {α : Type} {l : List α} {i : Nat} {d : α} (h : i < l.length) : l.getD i d = l[i] := by
  rw [List.getD_eq_getElem?_getD, List.getElem?_eq_getElem h, Option.getD_some]
def pv (im : IM) (p : Int) : Int := if p < 1 ∨ p > (im.2.1.length : Int) then 0 else (im.2.1.getD (Int.toNat (p - 1)) ((0 : Int), ((0 : Int), (false, ((0 : Int), ((0 : Int), ((0 : Int), ()))))))).1
theorem part_val (k : Nat) (im : IM) (p : Int) (hl : im.2.1.length ≤ 70) : d54 k (im, (p, ())) = some ((pv im p, ()), ()) := by
  simp only [d54, lt]
  by_cases h1 : p < 1
  · have hp : pv im p = 0 := if_pos (.inl h1)
    simp only [decide_eq_true h1, if_true, hp]
  · have h1' : decide (p < 1) = false := decide_eq_false h1
    by_cases h2 : p > (im.2.1.length : Int)
    · have hp : pv im p = 0 := if_pos (.inr h2)
      simp only [h1', decide_eq_true h2, Bool.false_eq_true, if_false, if_true, hp]
    · have h2' : decide (p > (im.2.1.length : Int)) = false := decide_eq_false h2
      have e : IntKind.wrap .i64 (p - 1) = p - 1 := wrI (by omega) (by omega)
      have e1 : decide ((0 : Int) ≤ p - 1) = true := decide_eq_true (by omega)
      have e2 : decide (p - 1 < (im.2.1.length : Int)) = true := decide_eq_true (by omega)
      have hp : pv im p = (im.2.1.getD (Int.toNat (p - 1)) ((0 : Int), ((0 : Int), (false, ((0 : Int), ((0 : Int), ((0 : Int), ()))))))).1 := if_neg (fun h => h.elim h1 h2)
      simp only [h1', h2', e, e1, e2, Bool.false_eq_true, if_false, Bool.and_self, if_true, hp]
/-- What a channel leads to. -/
def toB (im : IM) (c : CH) : List Int := if c.2.2.1 = [] then [0] else c.2.2.1.map (pv im)
def toL (im : IM) (c : CH) : List Int := Lib.compact ((toB im c).mergeSort fun x y => decide (x ≤ y))
theorem mem_toL {im : IM} {c : CH} {t : Int} (h : 1 ≤ t) : t ∈ toL im c ↔ ∃ p ∈ c.2.2.1, pv im p = t := by
  unfold toL
  rw [mem_compact, List.mem_mergeSort]
  unfold toB
  split
  · rename_i e
    rw [e]
    simp
    omega
  · rw [List.mem_map]
theorem toB_len (im : IM) (c : CH) : (toB im c).length ≤ c.2.2.1.length + 1 := by
  unfold toB
  split
  · simp
  · simp
theorem toL_len (im : IM) (c : CH) : (toL im c).length ≤ c.2.2.1.length + 1 :=
  Nat.le_trans (Lib.compact_length_le _) (by rw [List.length_mergeSort]; exact toB_len im c)
theorem d43_loop (k0 : Nat) (im : IM) (hl : im.2.1.length ≤ 70) (ch : CH) (hc : ch.2.2.1.length ≤ 70) (K : (CH × IM × List Int × Unit) × Unit → Option ((Int × List Int × Int × Unit) × Unit)) : ∀ m i k, i + m = ch.2.2.1.length → m < k →
    loopN (d43_L4 k0 K) k ((im, ((ch.2.2.1.take i).map (pv im), (ch, ()))), ((i : Int), (ch.2.2.1, ((ch.2.2.1.length : Int), ())))) = K ((ch, (im, (ch.2.2.1.map (pv im), ()))), ()) := by
  intro m
  induction m with
  | zero =>
    intro i k hi hk
    obtain ⟨k, rfl⟩ : ∃ k', k = k' + 1 := ⟨k - 1, by omega⟩
    have h0 : ch.2.2.1.take i = ch.2.2.1 := List.take_of_length_le (by omega)
    rw [h0]
    simp only [loopN, d43_L4, lt, dnlt (show ch.2.2.1.length ≤ i by omega), Bool.false_eq_true, if_false]
  | succ m ih =>
    intro i k hi hk
    obtain ⟨k, rfl⟩ : ∃ k', k = k' + 1 := ⟨k - 1, by omega⟩
    have h1 : i < ch.2.2.1.length := by omega
    have hih := ih (i + 1) k (by omega) (by omega)
    have hle : ((ch.2.2.1.take i).map (pv im)).length = i := by rw [List.length_map, List.length_take]; omega
    have ef : appFits ((ch.2.2.1.take i).map (pv im)).length 1 8 = true := by rw [hle]; exact fit1 (by omega) (by omega)
    have et : (ch.2.2.1.take i).map (pv im) ++ pv im ch.2.2.1[i] :: [] = (ch.2.2.1.take (i + 1)).map (pv im) := by
      rw [List.take_succ_eq_append_getElem h1, List.map_append]; rfl
    simp only [loopN, d43_L4, lt, shr, dlt h1, dge0, Bool.and_self, if_true, Int.toNat_natCast, getD_mem h1, part_val k0 im _ hl, Option.bind_some, List.length_cons, List.length_nil, Nat.zero_add, ef, d43_K3, wr1 (show i < 4611686018427387904 by omega), et]
    exact hih
abbrev dCH : CH := ((0 : Int), ((0 : Int), (([] : List Int), ((0 : Int), ((0 : Int), ())))))
theorem parts_val (im : IM) (hl : im.2.1.length ≤ 70) (hch : im.2.2.1.length ≤ 70) (hto : ∀ c ∈ im.2.2.1, c.2.2.1.length ≤ 70) (j : Nat) (hj : j < im.2.2.1.length) (k : Nat) (hk : 70 < k) :
    d43 k (im, (((j + 1 : Nat) : Int), ())) = some ((pv im im.2.2.1[j].2.1, (toL im im.2.2.1[j], (0, ()))), ()) := by
  generalize hch0 : im.2.2.1[j] = ch
  have hcm : ch ∈ im.2.2.1 := by rw [← hch0]; exact List.getElem_mem hj
  have hc := hto ch hcm
  have a2 := d43_loop k im hl ch hc (d43_K2 k) ch.2.2.1.length 0 k (by omega) (by omega)
  rw [List.take_zero, List.map_nil] at a2
  have fin : ∀ l : List Int, l.length ≤ 71 → d43_K1 k ((l, (ch, (im, ()))), ()) = some ((pv im ch.2.1, (Lib.compact (l.mergeSort fun x y => decide (x ≤ y)), (0, ()))), ()) := fun l h => by
    simp only [d43_K1, d55, d56, Option.bind_some, part_val k im _ hl]
    rw [if_pos (by omega)]
    rfl
  have e1 : decide (((j + 1 : Nat) : Int) < 1) = false := decide_eq_false (by omega)
  have e2 : decide (((j + 1 : Nat) : Int) > (im.2.2.1.length : Int)) = false := decide_eq_false (by omega)
  have e3 : IntKind.wrap .i64 (((j + 1 : Nat) : Int) - 1) = (j : Int) := by rw [wrI (by omega) (by omega)]; omega
  have hd : d43 k (im, (((j + 1 : Nat) : Int), ())) = d43_K2 k ((ch, (im, (ch.2.2.1.map (pv im), ()))), ()) := by
    rw [← a2]
    simp only [d43, lt, shr, e1, e2, e3, Bool.false_eq_true, if_false, dge0, dlt hj, Bool.and_self, if_true, Int.toNat_natCast, getD_mem hj, hch0]
    rfl
  rw [hd]
  by_cases h0 : ch.2.2.1 = []
  · have : (((((ch.2.2.1.map (pv im)).length : Nat) : Int) == (0 : Int))) = true := by rw [h0]; rfl
    have hB : toL im ch = Lib.compact ([(0 : Int)].mergeSort fun x y => decide (x ≤ y)) := by unfold toL toB; rw [if_pos h0]
    rw [hB]
    simp only [d43_K2, lt, shr, this, if_true]
    exact fin [0] (by simp)
  · have : (((((ch.2.2.1.map (pv im)).length : Nat) : Int) == (0 : Int))) = false := by
      rw [beq_eq_false_iff_ne]
      have : ch.2.2.1.length ≠ 0 := fun e => h0 (List.length_eq_zero_iff.1 e)
      rw [List.length_map]; omega
    have hB : toL im ch = Lib.compact ((ch.2.2.1.map (pv im)).mergeSort fun x y => decide (x ≤ y)) := by unfold toL toB; rw [if_neg h0]
    rw [hB]
    simp only [d43_K2, lt, shr, this, Bool.false_eq_true, if_false]
    exact fin _ (by rw [List.length_map]; omega)
theorem parts_none (im : IM) (k : Nat) (t : Int) (h : ¬ (1 ≤ t ∧ t ≤ (im.2.2.1.length : Int))) : d43 k (im, (t, ())) = some ((0, ([], (2, ()))), ()) := by
  simp only [d43, lt]
  by_cases h1 : t < 1
  · simp only [decide_eq_true h1, if_true]
  · have h2 : t > (im.2.2.1.length : Int) := by omega
    simp only [decide_eq_false h1, decide_eq_true h2, Bool.false_eq_true, if_false, if_true]

/-! ### Direct -/
theorem there_eq (k : Nat) (im : IM) (p : Int) : d36 k (im, (p, ())) = some ((decide (1 ≤ p ∧ p ≤ (im.1.length : Int)), ()), ()) := by
  simp only [d36, lt]
  by_cases h1 : p ≥ 1
  · by_cases h2 : p ≤ (im.1.length : Int)
    · simp [h1, h2]
    · simp [h1, h2]
  · have : ¬ (1 ≤ p) := h1
    simp [this]
theorem drop_cons {α : Type} {l : List α} {i : Nat} (h : i < l.length) : l.drop i = l[i] :: l.drop (i + 1) := List.drop_eq_getElem_cons h
theorem d53_loop1 (k0 : Nat) (im : IM) {n : Nat} (hn : im.1.length = n) (hn40 : n ≤ 40) (to : List Int) (hto : to.length ≤ 71) (fr A B : Int) (K : (BM × IM × Unit) × Int × Int × Unit → Option ((BM × Unit) × Unit)) : ∀ m i k (M : BM), i + m = to.length → m < k → Sq n M →
    ∃ M', Sq n M' ∧ (∀ a c, a < n → c < n → gt M' a c = (gt M a c || (decide (fr = (a : Int) + 1) && (to.drop i).any fun v => decide (v = (c : Int) + 1)))) ∧ loopN (d53_L6 k0 K) k ((M, (im, (to, ()))), ((i : Int), (fr, (A, (B, ((to.length : Int), ())))))) = K ((M', (im, ())), (A, (B, ()))) := by
  intro m
  induction m with
  | zero =>
    intro i k M hi hk hM
    obtain ⟨k, rfl⟩ : ∃ k', k = k' + 1 := ⟨k - 1, by omega⟩
    refine ⟨M, hM, fun a c _ _ => ?_, ?_⟩
    · rw [List.drop_of_length_le (by omega)]; simp
    · simp only [loopN, d53_L6, lt, dnlt (show to.length ≤ i by omega), Bool.false_eq_true, if_false]
  | succ m ih =>
    intro i k M hi hk hM
    obtain ⟨k, rfl⟩ : ∃ k', k = k' + 1 := ⟨k - 1, by omega⟩
    have h1 : i < to.length := by omega
    have hdr := drop_cons h1
    generalize hv : to[i] = v at hdr
    have hv : to.getD i 0 = v := by rw [getD_mem h1]; exact hv
    by_cases hf : 1 ≤ fr ∧ fr ≤ (n : Int)
    · by_cases ht : 1 ≤ v ∧ v ≤ (n : Int)
      · obtain ⟨a, ha⟩ : ∃ a : Nat, fr = (a : Int) + 1 := ⟨(fr - 1).toNat, by omega⟩
        obtain ⟨b, hb⟩ : ∃ b : Nat, v = (b : Int) + 1 := ⟨(v - 1).toNat, by omega⟩
        have ha' : a < n := by omega
        have hb' : b < n := by omega
        have ea : IntKind.wrap .i64 (fr - 1) = (a : Int) := by rw [wrI (by omega) (by omega)]; omega
        have eb : IntKind.wrap .i64 (v - 1) = (b : Int) := by rw [wrI (by omega) (by omega)]; omega
        have hrow := hM.row a ha'
        obtain ⟨M', a1, a3, a2⟩ := ih (i + 1) k (st M a b true) (by omega) (by omega) (hM.st ha' _)
        refine ⟨M', a1, fun x c hx hc => ?_, ?_⟩
        · rw [a3 x c hx hc, gt_st hM ha' hb', hdr, List.any_cons]
          by_cases e1 : x = a
          · subst e1
            by_cases e2 : c = b
            · subst e2
              simp [ha, hb]
            · have : ¬ v = (c : Int) + 1 := by omega
              simp [e2, this]
          · have : ¬ fr = (x : Int) + 1 := by omega
            simp [e1, this]
        rw [← a2]
        have q1 : decide (1 ≤ fr ∧ fr ≤ ((im.1.length : Nat) : Int)) = true := decide_eq_true (by rw [hn]; exact hf)
        have q2 : decide (1 ≤ v ∧ v ≤ ((im.1.length : Nat) : Int)) = true := decide_eq_true (by rw [hn]; exact ht)
        simp only [loopN, d53_L6, lt, shr, dlt h1, nlt h1, dge0, Bool.and_self, Bool.and_true, if_true, Int.toNat_natCast, hv, there_eq, Option.bind_some, q1, q2, beq_self_eq_true, ea, eb, hM.len, hrow, dlt ha', nlt ha', dlt hb', nlt hb', d53_K4, d53_K5, wr1 (show i < 4611686018427387904 by omega), st]
      · obtain ⟨M', a1, a3, a2⟩ := ih (i + 1) k M (by omega) (by omega) hM
        refine ⟨M', a1, fun x c hx hc => ?_, ?_⟩
        · rw [a3 x c hx hc, hdr, List.any_cons]
          have : ¬ v = (c : Int) + 1 := by omega
          simp [this]
        rw [← a2]
        have q1 : decide (1 ≤ fr ∧ fr ≤ ((im.1.length : Nat) : Int)) = true := decide_eq_true (by rw [hn]; exact hf)
        have q2 : decide (1 ≤ v ∧ v ≤ ((im.1.length : Nat) : Int)) = false := decide_eq_false (by rw [hn]; exact ht)
        simp only [loopN, d53_L6, lt, shr, dlt h1, nlt h1, dge0, Bool.and_self, Bool.and_true, if_true, Int.toNat_natCast, hv, there_eq, Option.bind_some, q1, q2, beq_self_eq_true, Bool.false_eq_true, if_false, d53_K4, d53_K5, wr1 (show i < 4611686018427387904 by omega)]
    · obtain ⟨M', a1, a3, a2⟩ := ih (i + 1) k M (by omega) (by omega) hM
      refine ⟨M', a1, fun x c hx hc => ?_, ?_⟩
      · rw [a3 x c hx hc]
        have : ¬ fr = (x : Int) + 1 := by omega
        simp [this]
      rw [← a2]
      have q1 : decide (1 ≤ fr ∧ fr ≤ ((im.1.length : Nat) : Int)) = false := decide_eq_false (by rw [hn]; exact hf)
      simp only [loopN, d53_L6, lt, shr, dlt h1, nlt h1, dge0, Bool.and_self, Bool.and_true, if_true, Int.toNat_natCast, hv, there_eq, Option.bind_some, q1, Bool.false_beq, Bool.not_true, Bool.false_and, Bool.false_eq_true, if_false, d53_K4, d53_K5, wr1 (show i < 4611686018427387904 by omega)]
/-- A channel joins two partitions. -/
def jn (im : IM) (a c : Nat) (ch : CH) : Bool := decide (pv im ch.2.1 = (a : Int) + 1) && (toL im ch).any fun v => decide (v = (c : Int) + 1)
theorem d53_loop2 (im : IM) {n : Nat} (hn : im.1.length = n) (hn40 : n ≤ 40) (hl : im.2.1.length ≤ 70) (hch : im.2.2.1.length ≤ 70) (hto : ∀ c ∈ im.2.2.1, c.2.2.1.length ≤ 70) (k0 : Nat) (hk0 : 71 < k0) (K : (BM × Unit) × Unit → Option ((BM × Unit) × Unit)) : ∀ m i k (M : BM), i + m = im.2.2.1.length → m < k → Sq n M →
    ∃ M', Sq n M' ∧ (∀ a c, a < n → c < n → gt M' a c = (gt M a c || (im.2.2.1.drop i).any (jn im a c))) ∧ loopN (d53_L7 k0 K) k ((M, (im, ())), ((i : Int), ((im.2.2.1.length : Int), ()))) = K ((M', ()), ()) := by
  intro m
  induction m with
  | zero =>
    intro i k M hi hk hM
    obtain ⟨k, rfl⟩ : ∃ k', k = k' + 1 := ⟨k - 1, by omega⟩
    refine ⟨M, hM, fun a c _ _ => ?_, ?_⟩
    · rw [List.drop_of_length_le (by omega)]; simp
    · simp only [loopN, d53_L7, lt, dnlt (show im.2.2.1.length ≤ i by omega), Bool.false_eq_true, if_false]
  | succ m ih =>
    intro i k M hi hk hM
    obtain ⟨k, rfl⟩ : ∃ k', k = k' + 1 := ⟨k - 1, by omega⟩
    have h1 : i < im.2.2.1.length := by omega
    have b2 := parts_val im hl hch hto i h1 k0 (by omega)
    have hcl : (toL im im.2.2.1[i]).length ≤ 71 := Nat.le_trans (toL_len _ _) (by have := hto im.2.2.1[i] (List.getElem_mem h1); omega)
    have hdr := drop_cons h1
    generalize im.2.2.1[i] = ch at b2 hcl hdr
    obtain ⟨M1, c1, c3, c2⟩ := d53_loop1 k0 im hn hn40 (toL im ch) hcl (pv im ch.2.1) ((im.2.2.1.length : Nat) : Int) (i : Int) (d53_K3 (d53_K2 (loopN (d53_L7 k0 K) k))) (toL im ch).length 0 k0 M (by omega) (by omega) hM
    obtain ⟨M', a1, a3, a2⟩ := ih (i + 1) k M1 (by omega) (by omega) c1
    refine ⟨M', a1, fun a c ha hc => ?_, ?_⟩
    · rw [a3 a c ha hc, c3 a c ha hc, hdr, List.any_cons, List.drop_zero, Bool.or_assoc]
      rfl
    rw [← a2]
    simp only [loopN]
    rw [show d53_L7 k0 K (loopN (d53_L7 k0 K) k) ((M, (im, ())), ((i : Int), ((im.2.2.1.length : Int), ()))) = _ from by
      simp only [d53_L7, lt, shr, dlt h1, if_true, wr1 (show i < 4611686018427387904 by omega), b2, Option.bind_some]
      exact c2]
    simp only [d53_K3, d53_K2, wr1 (show i < 4611686018427387904 by omega)]
structure Small (im : IM) : Prop where
  n : im.1.length ≤ 40
  p : im.2.1.length ≤ 70
  c : im.2.2.1.length ≤ 70
  t : ∀ c ∈ im.2.2.1, c.2.2.1.length ≤ 70
/-- Two partitions are joined. -/
def jd (im : IM) (a c : Nat) : Bool := im.2.2.1.any (jn im a c)
theorem direct_ok {im : IM} (h : Small im) (k : Nat) (hk : 71 < k) : ∃ M, Sq im.1.length M ∧ (∀ a c, a < im.1.length → c < im.1.length → gt M a c = jd im a c) ∧ d53 k (im, ()) = some ((M, ()), ()) := by
  obtain ⟨M0, a1, a3, a2⟩ := square_ok (n := im.1.length) h.n k (by have := h.n; omega)
  obtain ⟨M, b1, b3, b2⟩ := d53_loop2 im rfl h.n h.p h.c h.t k hk d53_K1 im.2.2.1.length 0 k M0 (by omega) (by have := h.c; omega) a1
  refine ⟨M, b1, fun a c ha hc => ?_, ?_⟩
  · rw [b3 a c ha hc, a3, List.drop_zero, Bool.false_or]; rfl
  simp only [d53, a2, Option.bind_some, shr]
  exact b2
end Go.Proofs.Ytledeaknnihlmaa.L
