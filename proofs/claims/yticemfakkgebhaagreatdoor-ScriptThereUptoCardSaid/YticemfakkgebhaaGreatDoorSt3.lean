import Derived.Test.YticemfakkgebhaaGreatDoorSt2
namespace Go.Proofs.YticemfakkgebhaaGreatDoor.L
open Go Go.Lift
set_option linter.unusedVariables false
set_option linter.unusedSimpArgs false
set_option maxRecDepth 100000

/-! ### the value of bytes, and its bytes again -/
def valF (v : Int) (l : List Int) : Int := l.foldl (fun v c => v * 256 + c) v
abbrev val (l : List Int) : Int := valF 0 l
theorem bigB_last {v c : Int} (hc : isB c) (n : Nat) : bigB (v * 256 + c) (n + 1) n = c := by
  unfold isB at hc
  have : (2 : Int) ^ (8 * (n + 1 - 1 - n)) = 1 := by
    have : 8 * (n + 1 - 1 - n) = 0 := by omega
    rw [this]; rfl
  unfold bigB
  rw [this, Int.fdiv_one]
  simp [IntKind.wrap, IntKind.signed, IntKind.bits]; omega
theorem bigB_init {v c : Int} (hc : isB c) {n i : Nat} (h : i < n) : bigB (v * 256 + c) (n + 1) i = bigB v n i := by
  unfold isB at hc
  have e : 8 * (n + 1 - 1 - i) = 8 + 8 * (n - 1 - i) := by omega
  unfold bigB
  have p : (0 : Int) ≤ 2 ^ (8 * (n - 1 - i)) := by
    have : (0 : Int) ≤ ((2 ^ (8 * (n - 1 - i)) : Nat) : Int) := Int.natCast_nonneg _
    simpa using this
  have h1 : Int.fdiv (v * 256 + c) (2 ^ (8 * (n + 1 - 1 - i))) = Int.fdiv v (2 ^ (8 * (n - 1 - i))) := by
    rw [e, Int.pow_add, Int.fdiv_eq_ediv_of_nonneg _ (Int.mul_nonneg (by decide) p), Int.fdiv_eq_ediv_of_nonneg _ p, ← Int.ediv_ediv_of_nonneg (by decide)]
    have : (v * 256 + c) / 2 ^ 8 = v := by
      have : (2 : Int) ^ 8 = 256 := rfl
      rw [this]; omega
    rw [this]
  rw [h1]
theorem valF_snoc (v c : Int) (l : List Int) : valF v (l ++ [c]) = valF v l * 256 + c := by
  simp [valF]
theorem big_val : ∀ (n : Nat) (l : List Int), l.length = n → (∀ y ∈ l, isB y) → bigL (val l) n = l
  | 0, l, h, _ => by
    have : l = [] := List.length_eq_zero_iff.1 h
    subst this; rfl
  | n + 1, l, h, hB => by
    have hne : l ≠ [] := by intro e; subst e; cases h
    have e := List.dropLast_concat_getLast hne
    generalize hl' : l.dropLast = l' at e
    generalize hc' : l.getLast hne = c at e
    have hc : isB c := by rw [← hc']; exact hB _ (List.getLast_mem hne)
    have hlen : l'.length = n := by rw [← hl', List.length_dropLast]; omega
    have hB' : ∀ y ∈ l', isB y := fun y hy => hB y (by rw [← e]; exact List.mem_append_left _ hy)
    have ih := big_val n l' hlen hB'
    rw [← e, val, valF_snoc]
    show (List.range (n + 1)).map _ = _
    rw [List.range_succ, List.map_append]
    congr 1
    · refine Eq.trans ?_ ih
      exact List.map_congr_left fun i hi => bigB_init hc (List.mem_range.1 hi)
    · show [_] = [_]
      rw [bigB_last hc n]
theorem val_lt {i : Nat} (hi : i < 8) {v : Int} (h : v < 256 ^ i) : v < 72057594037927936 := by
  have : i = 0 ∨ i = 1 ∨ i = 2 ∨ i = 3 ∨ i = 4 ∨ i = 5 ∨ i = 6 ∨ i = 7 := by omega
  rcases this with rfl | rfl | rfl | rfl | rfl | rfl | rfl | rfl <;> simp at h <;> omega
theorem step_lt {i : Nat} {v c : Int} (h : 0 ≤ v ∧ v < 256 ^ i) (hc : isB c) : 0 ≤ v * 256 + c ∧ v * 256 + c < 256 ^ (i + 1) := by
  unfold isB at hc
  rw [Int.pow_succ]
  generalize (256 : Int) ^ i = p at h ⊢
  omega
theorem val_range : ∀ (l : List Int) (i : Nat) (v : Int), (∀ y ∈ l, isB y) → 0 ≤ v ∧ v < 256 ^ i → 0 ≤ valF v l ∧ valF v l < 256 ^ (i + l.length)
  | [], i, v, _, h => h
  | c :: l, i, v, hB, h => by
    have := val_range l (i + 1) (v * 256 + c) (fun y hy => hB y (List.mem_cons_of_mem _ hy)) (step_lt h (hB c (List.mem_cons_self ..)))
    have e : i + (c :: l).length = i + 1 + l.length := by simp; omega
    rw [e]; exact this

/-! ### number -/
theorem num_loop (K : (RS × Unit) × (Int × Unit) → Option ((Int × Unit) × (RS × Unit))) (st : RS) (l : List Int) (hB : ∀ y ∈ l, isB y) (hl : l.length ≤ 8) : ∀ (m i k : Nat) (v : Int), i + m = l.length → m < k → 0 ≤ v ∧ v < 256 ^ i →
    loopN (d40_L3 K) k ((st, ()), ((i : Int), (v, (l, ((l.length : Int), ()))))) = K ((st, ()), (valF v (l.drop i), ())) := by
  intro m
  induction m with
  | zero =>
    intro i k v hi hk hv
    obtain ⟨k, rfl⟩ : ∃ k', k = k' + 1 := ⟨k - 1, by omega⟩
    have : l.drop i = [] := List.drop_eq_nil_of_le (by omega)
    simp only [loopN, d40_L3, lt, dnlt (show l.length ≤ i by omega), Bool.false_eq_true, if_false, this, valF, List.foldl_nil]
  | succ m ih =>
    intro i k v hi hk hv
    obtain ⟨k, rfl⟩ : ∃ k', k = k' + 1 := ⟨k - 1, by omega⟩
    have h1 : i < l.length := by omega
    have hg : l.getD i 0 = l[i] := by
      rw [List.getD_eq_getElem?_getD, List.getElem?_eq_getElem h1]; rfl
    have hc : isB (l.getD i 0) := by rw [hg]; exact hB _ (List.getElem_mem h1)
    have hs := stepV_eq ⟨hv.1, val_lt (show i < 8 by omega) hv.2⟩ hc
    have := ih (i + 1) k (v * 256 + l.getD i 0) (by omega) (by omega) (step_lt hv hc)
    have e8 : decide ((8 : Int) < 0) = false := rfl
    refine Eq.trans ?_ (this.trans ?_)
    · rw [← hs]
      simp only [loopN, d40_L3, lt, shr, dlt h1, dge0, Bool.and_self, if_true, Int.toNat_natCast, e8, Bool.not_false, d40_K2, wr1 (show i < 4611686018427387904 by omega), stepV]
    · rw [List.drop_eq_getElem_cons h1, hg]
      rfl
theorem number_bad (k : Nat) (hk : 0 < k) (b : List Int) (f : Int) (n : Int) (hf : f ≠ 0) : d40 k ((b, (f, ())), (n, ())) = some ((0, ()), ((b, (f, ())), ())) := by
  obtain ⟨k, rfl⟩ : ∃ k', k = k' + 1 := ⟨k - 1, by omega⟩
  have e1 : (f == 0) = false := beq_false_of_ne hf
  have e2 : (f != 0) = true := by rw [bne, e1]; rfl
  have e3 : decide ((0 : Int) < (([] : List Int).length : Int)) = false := rfl
  simp only [d40, d54, lt, shr, e1, Bool.false_eq_true, if_false, d54_K1, e2, if_true, Option.bind_some, loopN, d40_L3, e3, d40_K1]
theorem number_short (k : Nat) (hk : 0 < k) (b : List Int) (n : Nat) (h : b.length < n) : d40 k ((b, (0, ())), ((n : Int), ())) = some ((0, ()), ((b, (20, ())), ())) := by
  obtain ⟨k, rfl⟩ : ∃ k', k = k' + 1 := ⟨k - 1, by omega⟩
  have e1 : ((0 : Int) == 0) = true := rfl
  have e2 : ((20 : Int) != 0) = true := rfl
  have e3 : decide ((0 : Int) < (([] : List Int).length : Int)) = false := rfl
  have e4 : decide ((n : Int) < 0) = false := decide_eq_false (by omega)
  have e5 : decide ((n : Int) > ((b.length : Nat) : Int)) = true := decide_eq_true (by omega)
  simp only [d40, d54, lt, shr, e1, e4, e5, Bool.false_eq_true, if_false, d54_K1, e2, if_true, Option.bind_some, loopN, d40_L3, e3, d40_K1]
theorem number_ok (k : Nat) (hk : 8 < k) (b : List Int) (hB : ∀ y ∈ b, isB y) (n : Nat) (hn : n ≤ 8) (h : n ≤ b.length) : d40 k ((b, (0, ())), ((n : Int), ())) = some ((val (b.take n), ()), ((b.drop n, (0, ())), ())) := by
  have e1 : ((0 : Int) == 0) = true := rfl
  have e2 : ((0 : Int) != 0) = false := rfl
  have e4 : decide ((n : Int) < 0) = false := decide_eq_false (by omega)
  have e5 : decide ((n : Int) > ((b.length : Nat) : Int)) = false := decide_eq_false (by omega)
  have e6 : decide ((n : Int) ≤ (n : Int)) = true := decide_eq_true (by omega)
  have e7 : decide ((n : Int) ≤ ((b.length : Nat) : Int)) = true := decide_eq_true (by omega)
  have e8 : decide (n ≤ b.length) = true := decide_eq_true h
  have e9 : decide (b.length ≤ b.length) = true := decide_eq_true (by omega)
  have hl : (b.take n).length = n := by rw [List.length_take]; omega
  have := num_loop d40_K1 (b.drop n, (0, ())) (b.take n) (fun y hy => hB y (List.mem_of_mem_take hy)) (by omega) n 0 k 0 (by omega) (by omega) ⟨by omega, by simp⟩
  simp only [d40, d54, lt, shr, e1, e4, e5, Bool.false_eq_true, if_false, d54_K1, e2, if_true, e6, e7, e8, e9, dge0, Bool.and_self, Bool.and_true, Int.toNat_natCast, Option.bind_some, List.take_length]
  exact this
end Go.Proofs.YticemfakkgebhaaGreatDoor.L
