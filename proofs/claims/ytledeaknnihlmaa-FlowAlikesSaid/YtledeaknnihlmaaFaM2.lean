import Derived.Test.YtledeaknnihlmaaFaM1
namespace Go.Proofs.Ytledeaknnihlmaa.L
open Go Go.Lift
set_option linter.unusedVariables false
set_option linter.unusedSimpArgs false
set_option maxRecDepth 100000

/-! ### Reach: the closure, step by step -/
theorem d37_diag (K : (BM × Unit) × Unit → Option ((BM × Unit) × Unit)) {n : Nat} (hn : n ≤ 40) : ∀ m i k (M : BM), i + m = n → m < k → Sq n M →
    ∃ M', Sq n M' ∧ (∀ a c, gt M' a c = if a = c ∧ i ≤ a ∧ a < n then true else gt M a c) ∧ loopN (d37_L12 K) k ((M, ()), ((i : Int), ((n : Int), ()))) = K ((M', ()), ()) := by
  intro m
  induction m with
  | zero =>
    intro i k M hi hk hM
    obtain ⟨k, rfl⟩ : ∃ k', k = k' + 1 := ⟨k - 1, by omega⟩
    refine ⟨M, hM, fun a c => by rw [if_neg (by omega)], ?_⟩
    simp only [loopN, d37_L12, lt, dnlt (show n ≤ i by omega), Bool.false_eq_true, if_false]
  | succ m ih =>
    intro i k M hi hk hM
    obtain ⟨k, rfl⟩ : ∃ k', k = k' + 1 := ⟨k - 1, by omega⟩
    have h1 : i < n := by omega
    obtain ⟨M', a1, a2, a3⟩ := ih (i + 1) k (st M i i true) (by omega) (by omega) (hM.st h1 _)
    refine ⟨M', a1, fun a c => ?_, ?_⟩
    · rw [a2, gt_st hM h1 h1]
      by_cases h : a = c
      · subst h
        by_cases hi' : i ≤ a ∧ a < n
        · rw [if_pos (c := a = a ∧ i ≤ a ∧ a < n) ⟨rfl, hi'⟩]
          by_cases e : a = i
          · rw [if_neg (by omega), if_pos ⟨e, e⟩]
          · rw [if_pos ⟨rfl, by omega, hi'.2⟩]
        · rw [if_neg (by omega), if_neg (by omega), if_neg (by omega)]
      · rw [if_neg (by omega), if_neg (by omega), if_neg (by omega)]
    · rw [← a3]
      have hrow := hM.row i h1
      simp only [loopN, d37_L12, lt, shr, dlt h1, nlt h1, dge0, hM.len, hrow, Bool.and_self, Bool.and_true, if_true, Int.toNat_natCast, d37_K11, wr1 (show i < 4611686018427387904 by omega), st]
theorem d37_row (A B C D : Int) (K : (BM × Unit) × Int × Int × Int × Int × Int × Unit → Option ((BM × Unit) × Unit)) {n : Nat} (hn : n ≤ 40) {i t : Nat} (hi : i < n) (ht : t < n) : ∀ m j k (M : BM), j + m = n → m < k → Sq n M →
    ∃ M', Sq n M' ∧ (∀ a c, gt M' a c = if a = i ∧ j ≤ c ∧ c < n then (gt M i c || gt M t c) else gt M a c) ∧ loopN (d37_L7 K) k ((M, ()), ((j : Int), ((t : Int), ((i : Int), (A, (B, (C, (D, ((n : Int), ()))))))))) = K ((M', ()), ((t : Int), (A, (B, (C, (D, ())))))) := by
  intro m
  induction m with
  | zero =>
    intro j k M hj hk hM
    obtain ⟨k, rfl⟩ : ∃ k', k = k' + 1 := ⟨k - 1, by omega⟩
    refine ⟨M, hM, fun a c => by rw [if_neg (by omega)], ?_⟩
    simp only [loopN, d37_L7, lt, dnlt (show n ≤ j by omega), Bool.false_eq_true, if_false]
  | succ m ih =>
    intro j k M hj hk hM
    obtain ⟨k, rfl⟩ : ∃ k', k = k' + 1 := ⟨k - 1, by omega⟩
    have h1 : j < n := by omega
    obtain ⟨M', a1, a2, a3⟩ := ih (j + 1) k (st M i j (gt M i j || gt M t j)) (by omega) (by omega) (hM.st hi _)
    refine ⟨M', a1, fun a c => ?_, ?_⟩
    · rw [a2]
      simp only [gt_st hM hi h1]
      by_cases ha : a = i
      · subst ha
        by_cases hc : j ≤ c ∧ c < n
        · rw [if_pos (c := a = a ∧ j ≤ c ∧ c < n) ⟨rfl, hc⟩]
          by_cases e : c = j
          · subst e
            rw [if_neg (by omega), if_pos ⟨rfl, rfl⟩]
          · rw [if_pos ⟨rfl, by omega, hc.2⟩, if_neg (by omega), if_neg (by omega)]
        · rw [if_neg (by omega), if_neg (by omega), if_neg (by omega)]
      · rw [if_neg (by omega), if_neg (by omega), if_neg (by omega)]
    · rw [← a3]
      have r1 := hM.row i hi
      have r2 := hM.row t ht
      have g1 : (M.getD i []).getD j false = gt M i j := rfl
      have g2 : (M.getD t []).getD j false = gt M t j := rfl
      have ho : (if gt M i j = true then true else gt M t j) = (gt M i j || gt M t j) := by cases gt M i j <;> rfl
      simp only [loopN, d37_L7, lt, shr, dlt h1, nlt h1, dlt hi, nlt hi, dlt ht, nlt ht, dge0, hM.len, r1, r2, g1, g2, ho, Bool.and_self, Bool.and_true, Bool.or_true, if_true, Int.toNat_natCast, d37_K6, wr1 (show j < 4611686018427387904 by omega), st]
theorem d37_rows (A B : Int) (k0 : Nat) (K : (BM × Unit) × Int × Int × Unit → Option ((BM × Unit) × Unit)) {n : Nat} (hn : n ≤ 40) (hk0 : 40 < k0) {t : Nat} (ht : t < n) : ∀ m i k (M : BM), i + m = n → m < k → Sq n M →
    ∃ M', Sq n M' ∧ (∀ a c, c < n → gt M' a c = if i ≤ a ∧ a < n then (gt M a c || (gt M a t && gt M t c)) else gt M a c) ∧ loopN (d37_L8 k0 K) k ((M, ()), ((i : Int), ((t : Int), (A, (B, ((n : Int), ())))))) = K ((M', ()), (A, (B, ()))) := by
  intro m
  induction m with
  | zero =>
    intro i k M hi hk hM
    obtain ⟨k, rfl⟩ : ∃ k', k = k' + 1 := ⟨k - 1, by omega⟩
    refine ⟨M, hM, fun a c _ => by rw [if_neg (by omega)], ?_⟩
    simp only [loopN, d37_L8, lt, dnlt (show n ≤ i by omega), Bool.false_eq_true, if_false]
  | succ m ih =>
    intro i k M hi hk hM
    obtain ⟨k, rfl⟩ : ∃ k', k = k' + 1 := ⟨k - 1, by omega⟩
    have h1 : i < n := by omega
    have r1 := hM.row i h1
    have g1 : (M.getD i []).getD t false = gt M i t := rfl
    -- the row done
    obtain ⟨M1, b1, b2, b3⟩ : ∃ M1, Sq n M1 ∧ (∀ a c, c < n → gt M1 a c = if a = i then (gt M a c || (gt M a t && gt M t c)) else gt M a c) ∧
        d37_L8 k0 K (loopN (d37_L8 k0 K) k) ((M, ()), ((i : Int), ((t : Int), (A, (B, ((n : Int), ())))))) = loopN (d37_L8 k0 K) k ((M1, ()), (((i + 1 : Nat) : Int), ((t : Int), (A, (B, ((n : Int), ())))))) := by
      cases hg : gt M i t with
      | false =>
        refine ⟨M, hM, fun a c _ => ?_, ?_⟩
        · by_cases ha : a = i
          · subst ha; rw [if_pos rfl, hg]; simp
          · rw [if_neg ha]
        · simp only [d37_L8, lt, shr, dlt h1, nlt h1, dlt ht, nlt ht, dge0, hM.len, r1, g1, hg, Bool.and_self, Bool.and_true, Bool.not_false, if_true, Int.toNat_natCast, d37_K4, wr1 (show i < 4611686018427387904 by omega)]
      | true =>
        obtain ⟨M1, c1, c2, c3⟩ := d37_row A B (n : Int) (i : Int) (d37_K5 (d37_K4 (loopN (d37_L8 k0 K) k))) hn h1 ht n 0 k0 M (by omega) (by omega) hM
        refine ⟨M1, c1, fun a c hc => ?_, ?_⟩
        · rw [c2]
          by_cases ha : a = i
          · subst ha; rw [if_pos rfl, if_pos ⟨rfl, by omega, hc⟩, hg]; simp
          · rw [if_neg ha, if_neg (by omega)]
        · simp only [d37_L8, lt, shr, dlt h1, nlt h1, dlt ht, nlt ht, dge0, hM.len, r1, g1, hg, Bool.and_self, Bool.and_true, Bool.not_true, Bool.false_eq_true, if_false, if_true, Int.toNat_natCast]
          rw [show ((0 : Int)) = ((0 : Nat) : Int) from rfl, c3]
          simp only [d37_K5, d37_K4, wr1 (show i < 4611686018427387904 by omega)]
    obtain ⟨M', a1, a2, a3⟩ := ih (i + 1) k M1 (by omega) (by omega) b1
    refine ⟨M', a1, fun a c hc => ?_, ?_⟩
    · rw [a2 a c hc]
      by_cases ha : i ≤ a ∧ a < n
      · rw [if_pos ha]
        by_cases e : a = i
        · rw [if_neg (by omega), b2 a c hc, if_pos e]
        · rw [if_pos (by omega), b2 a c hc, b2 a t ht, b2 t c hc, if_neg e, if_neg e]
          by_cases et : t = i
          · subst et
            rw [if_pos rfl]
            cases gt M a c <;> cases gt M a t <;> cases gt M t c <;> cases gt M t t <;> rfl
          · rw [if_neg et]
      · rw [if_neg ha, if_neg (by omega), b2 a c hc, if_neg (by omega)]
    · rw [← a3]
      simp only [loopN]
      exact b3

/-- The square after all steps: reflexive where it was, holds what it held, and nothing that is not a path. -/
inductive Path (D : BM) (n : Nat) : Nat → Nat → Prop
  | refl (i : Nat) : Path D n i i
  | step {i j k : Nat} (h : Path D n i j) (hj : j < n) (hk : k < n) (hd : gt D j k = true) : Path D n i k
theorem Path.trans {D : BM} {n i j k : Nat} (h : Path D n i j) (h2 : Path D n j k) : Path D n i k := by
  induction h2 with
  | refl => exact h
  | step h3 hj hk hd ih => exact .step ih hj hk hd
/-- Closed through the first t. -/
def Thru (n t : Nat) (M : BM) : Prop := ∀ a c s, a < n → c < n → s < t → gt M a s = true → gt M s c = true → gt M a c = true
structure Mid (D : BM) (n t : Nat) (M : BM) : Prop where
  sq : Sq n M
  diag : ∀ a, a < n → gt M a a = true
  has : ∀ a c, a < n → c < n → gt D a c = true → gt M a c = true
  path : ∀ a c, a < n → c < n → gt M a c = true → Path D n a c
  thru : Thru n t M
theorem mid_next {D : BM} {n t : Nat} {M M' : BM} (h : Mid D n t M) (ht : t < n) (hs : Sq n M') (hg : ∀ a c, c < n → gt M' a c = if 0 ≤ a ∧ a < n then (gt M a c || (gt M a t && gt M t c)) else gt M a c) : Mid D n (t + 1) M' := by
  have hg' : ∀ a c, a < n → c < n → (gt M' a c = true ↔ gt M a c = true ∨ (gt M a t = true ∧ gt M t c = true)) := by
    intro a c ha hc
    rw [hg a c hc, if_pos ⟨Nat.zero_le _, ha⟩]
    simp
  refine ⟨hs, fun a ha => ?_, fun a c ha hc hd => ?_, fun a c ha hc hm => ?_, fun a c s ha hc hs' h1 h2 => ?_⟩
  · exact (hg' a a ha ha).2 (.inl (h.diag a ha))
  · exact (hg' a c ha hc).2 (.inl (h.has a c ha hc hd))
  · rcases (hg' a c ha hc).1 hm with h1 | ⟨h1, h2⟩
    · exact h.path a c ha hc h1
    · exact (h.path a t ha ht h1).trans (h.path t c ht hc h2)
  · have hsn : s < n := by omega
    rw [hg' a s ha hsn] at h1
    rw [hg' s c hsn hc] at h2
    rw [hg' a c ha hc]
    rcases Nat.lt_or_ge s t with hst | hst
    · rcases h1 with h1 | ⟨h1, h3⟩
      · rcases h2 with h2 | ⟨h2, h4⟩
        · exact .inl (h.thru a c s ha hc hst h1 h2)
        · exact .inr ⟨h.thru a t s ha ht hst h1 h2, h4⟩
      · rcases h2 with h2 | ⟨h2, h4⟩
        · exact .inr ⟨h1, h.thru t c s ht hc hst h3 h2⟩
        · exact .inr ⟨h1, h4⟩
    · obtain rfl : s = t := by omega
      have e1 : gt M a s = true := by
        rcases h1 with h1 | ⟨h1, _⟩
        · exact h1
        · exact h1
      have e2 : gt M s c = true := by
        rcases h2 with h2 | ⟨_, h2⟩
        · exact h2
        · exact h2
      exact .inr ⟨e1, e2⟩
theorem d37_steps (D : BM) (k0 : Nat) (K : (BM × Unit) × Unit → Option ((BM × Unit) × Unit)) {n : Nat} (hn : n ≤ 40) (hk0 : 40 < k0) : ∀ m t k (M : BM), t + m = n → m < k → Mid D n t M →
    ∃ M', Mid D n n M' ∧ loopN (d37_L9 k0 K) k ((M, ()), ((t : Int), ((n : Int), ()))) = K ((M', ()), ()) := by
  intro m
  induction m with
  | zero =>
    intro t k M hi hk hM
    obtain ⟨k, rfl⟩ : ∃ k', k = k' + 1 := ⟨k - 1, by omega⟩
    obtain rfl : t = n := by omega
    refine ⟨M, hM, ?_⟩
    simp only [loopN, d37_L9, lt, dnlt (Nat.le_refl t), Bool.false_eq_true, if_false]
  | succ m ih =>
    intro t k M hi hk hM
    obtain ⟨k, rfl⟩ : ∃ k', k = k' + 1 := ⟨k - 1, by omega⟩
    have h1 : t < n := by omega
    obtain ⟨M1, b1, b2, b3⟩ := d37_rows (n : Int) (t : Int) k0 (d37_K3 (d37_K2 (loopN (d37_L9 k0 K) k))) hn hk0 h1 n 0 k0 M (by omega) (by omega) hM.sq
    obtain ⟨M', a1, a2⟩ := ih (t + 1) k M1 (by omega) (by omega) (mid_next hM h1 b1 b2)
    refine ⟨M', a1, ?_⟩
    rw [← a2]
    simp only [loopN]
    rw [show d37_L9 k0 K (loopN (d37_L9 k0 K) k) ((M, ()), ((t : Int), ((n : Int), ()))) = _ from by
      simp only [d37_L9, lt, shr, dlt h1, if_true, hM.sq.len]
      exact b3]
    simp only [d37_K3, d37_K2, wr1 (show t < 4611686018427387904 by omega)]
theorem reach_ok {im : IM} (h : Small im) (k : Nat) (hk : 71 < k) : ∃ D R, Sq im.1.length D ∧ (∀ a c, a < im.1.length → c < im.1.length → gt D a c = jd im a c) ∧ d53 k (im, ()) = some ((D, ()), ()) ∧ d37 k (im, ()) = some ((R, ()), ()) ∧ Mid D im.1.length im.1.length R := by
  obtain ⟨D, a1, a3, a2⟩ := direct_ok h k hk
  have hn := h.n
  obtain ⟨M0, b1, b2, b3⟩ := d37_diag (d37_K10 k) hn im.1.length 0 k D (by omega) (by omega) a1
  have hM0 : Mid D im.1.length 0 M0 := by
    refine ⟨b1, fun a ha => ?_, fun a c ha hc hd => ?_, fun a c ha hc hm => ?_, fun a c s _ _ hs => by omega⟩
    · rw [b2, if_pos ⟨rfl, Nat.zero_le _, ha⟩]
    · rw [b2]; split
      · rfl
      · exact hd
    · rw [b2] at hm
      split at hm
      · rename_i e; rw [e.1]; exact .refl _
      · exact .step (.refl a) ha hc hm
  obtain ⟨R, c1, c2⟩ := d37_steps D k d37_K1 hn (by omega) im.1.length 0 k M0 (by omega) (by omega) hM0
  refine ⟨D, R, a1, a3, a2, ?_, c1⟩
  simp only [d37, a2, Option.bind_some, shr, a1.len]
  rw [show ((0 : Int)) = ((0 : Nat) : Int) from rfl, b3]
  simp only [d37_K10, shr, b1.len]
  exact c2
end Go.Proofs.Ytledeaknnihlmaa.L
