import Derived.Test.YtjnnmgjpnbfhlaaGreatDoorCeL1
namespace Go.Proofs.YtjnnmgjpnbfhlaaGreatDoor.L
open Go Go.Lift
set_option linter.unusedVariables false
set_option linter.unusedSimpArgs false
set_option maxRecDepth 100000

theorem wrap_id {z : Int} (h1 : -9223372036854775808 ≤ z) (h2 : z ≤ 9223372036854775807) : IntKind.wrap .i64 z = z := by
  simp [IntKind.wrap, IntKind.signed, IntKind.bits]; omega
/-! ### in, rising, sameInts -/
theorem in_loop (v : Int) (xs : List Int) (hl : xs.length < 4611686018427387904) : ∀ (m i k : Nat), i + m = xs.length → m < k →
    loopN (d10_L2 (fun _ => some ((false, ()), ()))) k ((), ((i : Int), (v, (xs, ())))) = some (((xs.drop i).any (fun t => t == v), ()), ()) := by
  intro m
  induction m with
  | zero =>
    intro i k hi hk
    obtain ⟨k, rfl⟩ : ∃ k', k = k' + 1 := ⟨k - 1, by omega⟩
    rw [List.drop_eq_nil_of_le (by omega)]
    simp only [loopN, d10_L2, lt, dnlt (show xs.length ≤ i by omega), Bool.false_eq_true, if_false, List.any_nil]
  | succ m ih =>
    intro i k hi hk
    obtain ⟨k, rfl⟩ : ∃ k', k = k' + 1 := ⟨k - 1, by omega⟩
    have h1 : i < xs.length := by omega
    have hih := ih (i + 1) k (by omega) (by omega)
    rw [List.drop_eq_getElem_cons h1, List.any_cons]
    simp only [loopN, d10_L2, lt, shr, dlt h1, dge0, Bool.and_self, if_true, Int.toNat_natCast, getD_mem h1, d10_K1, wr1 (show i < 4611686018427387904 by omega), hih]
    cases e : (xs[i] == v) <;> simp
theorem d10_eq (k : Nat) (xs : List Int) (v : Int) (hl : xs.length < 4611686018427387904) (hk : xs.length < k) : d10 k (xs, (v, ())) = some ((xs.any (fun t => t == v), ()), ()) := by
  have := in_loop v xs hl xs.length 0 k (by omega) hk
  rw [List.drop_zero] at this
  simp only [d10, shr]
  exact this
theorem rise_loop (xs : List Int) (hl : xs.length < 4611686018427387904) (hs : xs.Pairwise (· < ·)) : ∀ (m i k : Nat), 1 ≤ i → (i + m = xs.length ∨ (m = 0 ∧ xs.length ≤ i)) → m < k →
    loopN (d7_L2 (fun _ => some ((true, ()), ()))) k ((), ((i : Int), (xs, ()))) = some ((true, ()), ()) := by
  intro m
  induction m with
  | zero =>
    intro i k h0 hi hk
    obtain ⟨k, rfl⟩ : ∃ k', k = k' + 1 := ⟨k - 1, by omega⟩
    simp only [loopN, d7_L2, lt, dnlt (show xs.length ≤ i by omega), Bool.false_eq_true, if_false]
  | succ m ih =>
    intro i k h0 hi hk
    obtain ⟨k, rfl⟩ : ∃ k', k = k' + 1 := ⟨k - 1, by omega⟩
    have h1 : i < xs.length := by omega
    have hih := ih (i + 1) k (by omega) (by omega) (by omega)
    have hp := List.pairwise_iff_getElem.1 hs (i - 1) i (by omega) h1 (by omega)
    have e1 : IntKind.wrap .i64 ((i : Int) - 1) = ((i - 1 : Nat) : Int) := by rw [wrap_id (by omega) (by omega)]; omega
    have e2 : decide (xs[i] ≤ xs[i - 1]) = false := decide_eq_false (by omega)
    simp only [loopN, d7_L2, lt, shr, dlt h1, dge0, Bool.and_self, if_true, Int.toNat_natCast, getD_mem h1, e1, dlt (show i - 1 < xs.length by omega), getD_mem (show i - 1 < xs.length by omega), e2, Bool.false_eq_true, if_false, d7_K1, wr1 (show i < 4611686018427387904 by omega), hih]
theorem d7_eq (k : Nat) (xs : List Int) (hl : xs.length < 4611686018427387904) (hk : xs.length < k) (hs : xs.Pairwise (· < ·)) : d7 k (xs, ()) = some ((true, ()), ()) := by
  simp only [d7, shr]
  rcases Nat.lt_or_ge 1 xs.length with h | h
  · exact rise_loop xs hl hs (xs.length - 1) 1 k (by omega) (by omega) (by omega)
  · exact rise_loop xs hl hs 0 1 k (by omega) (by omega) (by omega)
theorem d24_eq (k : Nat) (x : IM) (t : Int) (hl : x.2.1.length < 4611686018427387904) : d24 k (x, (t, ())) = some ((partN x t, ()), ()) := by
  simp only [d24, lt, partN]
  by_cases h1 : t < 1
  · simp [h1]
  · by_cases h2 : t > (x.2.1.length : Int)
    · simp [h1, h2]
    · have e : IntKind.wrap .i64 (t - 1) = t - 1 := by simp [IntKind.wrap, IntKind.signed, IntKind.bits]; omega
      have a : decide ((0 : Int) ≤ t - 1) = true := decide_eq_true (by omega)
      have b : decide (t - 1 < (x.2.1.length : Int)) = true := decide_eq_true (by omega)
      simp [h1, h2, e, a, b]
theorem same0 (k : Nat) (hk : 2 < k) : d16 k ([0], ([0], ())) = some ((true, ()), ()) := by
  obtain ⟨k, rfl⟩ : ∃ k', k = k' + 3 := ⟨k - 3, by omega⟩
  rfl

/-! ### Parts -/
def toN (x : IM) (c : CH) : List Int := Lib.compact ((if c.2.2.1.length = 0 then [0] else c.2.2.1.map (partN x)).mergeSort fun a b => decide (a ≤ b))
theorem parts_loop (k0 : Nat) (x : IM) (hx : x.2.1.length < 4611686018427387904) (c : CH) (hc : c.2.2.1.length * 8 ≤ 140737488355328) (K : (CH × (IM × (List Int × Unit))) × Unit → Option ((Int × (List Int × (Int × Unit))) × Unit)) : ∀ m i k, i + m = c.2.2.1.length → m < k →
    loopN (d9_L4 k0 K) k ((x, ((c.2.2.1.take i).map (partN x), (c, ()))), ((i : Int), (c.2.2.1, ((c.2.2.1.length : Int), ())))) = K ((c, (x, (c.2.2.1.map (partN x), ()))), ()) := by
  intro m
  induction m with
  | zero =>
    intro i k hi hk
    obtain ⟨k, rfl⟩ : ∃ k', k = k' + 1 := ⟨k - 1, by omega⟩
    rw [List.take_of_length_le (by omega)]
    simp only [loopN, d9_L4, lt, dnlt (show c.2.2.1.length ≤ i by omega), Bool.false_eq_true, if_false]
  | succ m ih =>
    intro i k hi hk
    obtain ⟨k, rfl⟩ : ∃ k', k = k' + 1 := ⟨k - 1, by omega⟩
    have h1 : i < c.2.2.1.length := by omega
    have hih := ih (i + 1) k (by omega) (by omega)
    have ef : appFits ((c.2.2.1.take i).map (partN x)).length (List.length (partN x c.2.2.1[i] :: ([] : List Int))) 8 = true := by
      rw [List.length_map, List.length_take, Nat.min_eq_left (by omega)]
      simp [appFits]; omega
    have et : (c.2.2.1.take i).map (partN x) ++ partN x c.2.2.1[i] :: ([] : List Int) = (c.2.2.1.take (i + 1)).map (partN x) := by
      rw [List.take_succ_eq_append_getElem h1, List.map_append]; rfl
    simp only [loopN, d9_L4, lt, shr, dlt h1, dge0, Bool.and_self, if_true, Int.toNat_natCast, getD_mem h1, d20_eq k0 x _ hx, Option.bind_some, ef, et, d9_K3, wr1 (show i < 4611686018427387904 by omega), hih]
theorem d9_eq (k : Nat) (x : IM) (hx : x.2.1.length < 4611686018427387904) (j : Nat) (hj : j < x.2.2.1.length) (hl : x.2.2.1.length < 4611686018427387904) (hc : x.2.2.1[j].2.2.1.length * 8 ≤ 140737488355328) (hk : x.2.2.1[j].2.2.1.length + 1 < k) :
    d9 k (x, (((j + 1 : Nat) : Int), ())) = some ((partN x x.2.2.1[j].2.1, (toN x x.2.2.1[j], (0, ()))), ()) := by
  have hloop := parts_loop k x hx x.2.2.1[j] hc (d9_K2 k) x.2.2.1[j].2.2.1.length 0 k (by omega) (by omega)
  rw [List.take_zero, List.map_nil] at hloop
  have e1 : decide (((j + 1 : Nat) : Int) < 1) = false := decide_eq_false (by omega)
  have e2 : decide (((j + 1 : Nat) : Int) > (x.2.2.1.length : Int)) = false := decide_eq_false (by omega)
  have e3 : IntKind.wrap .i64 (((j + 1 : Nat) : Int) - 1) = (j : Int) := by rw [wrap_id (by omega) (by omega)]; omega
  simp only [d9, lt, shr, e1, e2, e3, Bool.false_eq_true, if_false, dge0, dlt hj, Bool.and_self, if_true, Int.toNat_natCast, getD_mem hj]
  refine Eq.trans hloop ?_
  simp only [d9_K2, d9_K1, lt, shr, d20_eq k x _ hx, List.length_map, toN]
  by_cases h0 : x.2.2.1[j].2.2.1.length = 0
  · have hb : (((x.2.2.1[j].2.2.1.length : Nat) : Int) == 0) = true := by rw [h0]; rfl
    have hl1 : ([0] : List Int).length < 4611686018427387904 := by decide
    simp only [hb, h0, if_true, d25, d26, if_pos hl1, Option.bind_some]
    rfl
  · have hb : (((x.2.2.1[j].2.2.1.length : Nat) : Int) == 0) = false := by rw [beq_eq_false_iff_ne]; omega
    simp only [hb, h0, Bool.false_eq_true, if_false, d25, d26, List.length_map]
    rw [if_pos (by omega)]
    rfl
theorem toN_lt (x : IM) (c : CH) : (toN x c).Pairwise (· < ·) := compact_lt (sorted_le _)
theorem toN_any (x : IM) (c : CH) (t : Int) : (toN x c).any (fun u => u == t) = (if c.2.2.1.length = 0 then (0 == t) else c.2.2.1.any (fun u => partN x u == t)) := by
  unfold toN
  rw [compact_any, sorted_any]
  split
  · simp
  · rw [List.any_map]; rfl
theorem toN_len (x : IM) (c : CH) : (toN x c).length ≤ c.2.2.1.length + 1 := by
  unfold toN
  refine Nat.le_trans (Lib.compact_length_le _) ?_
  rw [List.length_mergeSort]
  split <;> simp
end Go.Proofs.YtjnnmgjpnbfhlaaGreatDoor.L
