import Derived.Test.YtjnnmgjpnbfhlaaPChannelTicksx1
namespace Go.Proofs.Ytjnnmgjpnbfhlaa.Ticks
open Go.RowKit Go.Proofs.YtjnnmgjpnbfhlaaW.PrintWords Go.Proofs.YtjnnmgjpnbfhlaaW.PrintLast Go.Proofs.YtjnnmgjpnbfhlaaW.PrintMore Go.Proofs.Ytjnnmgjpnbfhlaa.PChannelTicks
set_option linter.unusedVariables false
set_option linter.unusedSimpArgs false

def In64 (x : Int) : Prop := -9223372036854775808 ≤ x ∧ x ≤ 9223372036854775807
theorem wrap_in {x : Int} (h0 : -9223372036854775808 ≤ x) (h1 : x ≤ 9223372036854775807) : wrap64 x = x := by unfold wrap64; omega

/-- Next, by cases -/
def nx (ph pe t : Int) : Int :=
  if ph ≥ 1099511627776 then -1 else if t ≤ ph then ph else if t ≥ 1099511627776 then -1 else
  if (t - ph) % pe = 0 then t else if pe - (t - ph) % pe ≥ 1099511627776 - t then -1 else t + pe - (t - ph) % pe

theorem takes_eq (kd fr : Int) (l : List Int) (ph pe : Int) : channel_takes.f kd fr l ph pe = some (decide (kd = 1 ∧ fr ≠ 0 ∧ 0 < pe ∧ 0 ≤ ph)) ∧ bulkheadref18_takes.f kd fr l ph pe = some (decide (kd = 1 ∧ fr ≠ 0 ∧ 0 < pe ∧ 0 ≤ ph)) := by
  unfold channel_takes.f bulkheadref18_takes.f
  by_cases h1 : kd = 1 <;> by_cases h2 : fr = 0 <;> by_cases h3 : pe > 0 <;> by_cases h4 : ph ≥ 0 <;> simp [h1, h2, h3, h4] <;> omega

theorem next_c {kd fr ph pe t : Int} (l : List Int) (hph : In64 ph) (hpe : In64 pe) (ht : In64 t) (h : kd = 1 ∧ fr ≠ 0 ∧ 0 < pe ∧ 0 ≤ ph) : channel_Next.f 1 kd fr l ph pe t = some (nx ph pe t) := by
  obtain ⟨h1, h2, h3, h4⟩ := h
  unfold In64 at *
  unfold channel_Next.f num_NextAt.f nx mx
  rw [(takes_eq kd fr l ph pe).1]
  simp only [h1, h2, h3, h4, ne_eq, not_false_iff, and_self, decide_true, Option.bind_some, if_true]
  rw [if_neg (by omega), show decide (ph < 0) = false from by simp; omega]
  simp only [num_NextAt.j0, Bool.false_eq_true, if_false]
  by_cases c1 : t ≤ ph
  · rw [if_pos (by split <;> omega)]
    simp only [Option.bind_some, if_true]
    by_cases c2 : ph ≥ 1099511627776
    · rw [if_pos c2, if_pos c2]
    · rw [if_neg c2, if_neg c2, if_pos c1]
  · have e1 : (if t < 0 then (0 : Int) else t) = t := by rw [if_neg (by omega)]
    have e4 : (if 0 ≤ t then t else (0 : Int)) = t := by split <;> omega
    have e5 : (if 0 < t then t else (0 : Int)) = t := by split <;> omega
    simp only [e1]
    rw [if_neg c1, if_neg (show ¬ pe = 0 by omega), wrap_in (x := t - ph) (by omega) (by omega), Int.tmod_eq_emod_of_nonneg (show 0 ≤ t - ph by omega)]
    have g0 := Int.emod_nonneg (t - ph) (show pe ≠ 0 by omega)
    have g1 := Int.emod_lt_of_pos (t - ph) (show 0 < pe by omega)
    generalize (t - ph) % pe = r at *
    by_cases c3 : r = 0
    · rw [if_pos c3]
      simp only [Option.bind_some, if_true]
      by_cases c2 : ph ≥ 1099511627776
      · rw [if_pos (by omega), if_pos c2]
      · rw [if_neg c2, if_neg c1]
        by_cases c4 : t ≥ 1099511627776
        · rw [if_pos c4, if_pos c4]
        · rw [if_neg c4, if_neg c4, if_pos c3]
    · rw [if_neg c3]
      simp only [Option.bind_some]
      rw [wrap_in (x := t - r) (by omega) (by omega)]
      by_cases c5 : t - r + pe ≤ 9223372036854775807
      · rw [wrap_in (x := t - r + pe) (by omega) c5, if_pos (by simp; omega)]
        have e7 : (if t - r + pe < 0 then (0 : Int) else t - r + pe) = t - r + pe := by split <;> omega
        simp only [mx, e7]
        by_cases c2 : ph ≥ 1099511627776
        · rw [if_pos (by omega), if_pos c2]
        · rw [if_neg c2, if_neg c1]
          by_cases c4 : t ≥ 1099511627776
          · rw [if_pos (by omega), if_pos c4]
          · rw [if_neg c4, if_neg c3]
            by_cases c6 : pe - r ≥ 1099511627776 - t
            · rw [if_pos (by omega), if_pos c6]
            · rw [if_neg (by omega), if_neg c6]
              congr 1
              omega
      · have e7 : wrap64 (t - r + pe) = t - r + pe - 18446744073709551616 := by unfold wrap64; omega
        rw [e7, if_neg (by simp; omega)]
        by_cases c2 : ph ≥ 1099511627776
        · rw [if_pos c2]
        · rw [if_neg c2, if_neg c1]
          by_cases c4 : t ≥ 1099511627776
          · rw [if_pos c4]
          · rw [if_neg c4, if_neg c3, if_pos (by omega)]

theorem next_r {kd fr ph pe t : Int} (l : List Int) (hph : In64 ph) (hpe : In64 pe) (ht : In64 t) (h : kd = 1 ∧ fr ≠ 0 ∧ 0 < pe ∧ 0 ≤ ph) : bulkheadref18_Next.f 1 kd fr l ph pe t = some (nx ph pe t) := by
  obtain ⟨h1, h2, h3, h4⟩ := h
  unfold In64 at *
  unfold bulkheadref18_Next.f nx
  rw [(takes_eq kd fr l ph pe).2]
  simp only [h1, h2, h3, h4, ne_eq, not_false_iff, and_self, decide_true, Option.bind_some, if_true]
  simp only [bulkheadref18_Next.j0]
  by_cases c2 : ph ≥ 1099511627776
  · rw [if_pos (by simpa using c2), if_pos c2]
  · rw [if_neg (by simpa using c2), if_neg c2]
    by_cases c1 : t ≤ ph
    · rw [if_pos c1, if_pos c1]
    · rw [if_neg c1, if_neg c1]
      by_cases c4 : t ≥ 1099511627776
      · rw [if_pos c4, if_pos c4]
      · rw [if_neg c4, if_neg c4, if_neg (show ¬ pe = 0 by omega), wrap_in (x := t - ph) (by omega) (by omega), Int.tmod_eq_emod_of_nonneg (show 0 ≤ t - ph by omega)]
        have g0 := Int.emod_nonneg (t - ph) (show pe ≠ 0 by omega)
        have g1 := Int.emod_lt_of_pos (t - ph) (show 0 < pe by omega)
        generalize (t - ph) % pe = r at *
        by_cases c3 : r = 0
        · rw [if_pos c3, if_pos c3]
        · rw [if_neg c3, if_neg c3, wrap_in (x := pe - r) (by omega) (by omega), wrap_in (x := 1099511627776 - t) (by omega) (by omega)]
          by_cases c6 : pe - r ≥ 1099511627776 - t
          · rw [if_pos c6, if_pos c6]
          · rw [if_neg c6, if_neg c6]
            congr 1
            unfold wrap64
            omega

theorem next_no {kd fr ph pe t : Int} (l : List Int) (h : ¬ (kd = 1 ∧ fr ≠ 0 ∧ 0 < pe ∧ 0 ≤ ph)) : channel_Next.f 1 kd fr l ph pe t = some (-1) ∧ bulkheadref18_Next.f 1 kd fr l ph pe t = some (-1) := by
  unfold channel_Next.f bulkheadref18_Next.f
  rw [(takes_eq kd fr l ph pe).1, (takes_eq kd fr l ph pe).2]
  simp only [h, decide_false, Option.bind_some, Bool.false_eq_true, if_false, bulkheadref18_Next.j0, if_true, and_self]

theorem next_eq (kd fr : Int) (l l' : List Int) (ph pe t : Int) (hph : In64 ph) (hpe : In64 pe) (ht : In64 t) : ∃ k n, channel_Next.f k kd fr l ph pe t = some n ∧ bulkheadref18_Next.f k kd fr l' ph pe t = some n := by
  by_cases h : kd = 1 ∧ fr ≠ 0 ∧ 0 < pe ∧ 0 ≤ ph
  · exact ⟨1, _, next_c l hph hpe ht h, next_r l' hph hpe ht h⟩
  · exact ⟨1, _, (next_no l h).1, (next_no l' h).2⟩

theorem due_eq (kd fr : Int) (l l' : List Int) (ph pe t : Int) (hph : In64 ph) (hpe : In64 pe) (ht : In64 t) : ∃ k b, channel_Due.f k kd fr l ph pe t = some b ∧ bulkheadref18_Due.f kd fr l' ph pe t = some b := by
  refine ⟨1, (if t ≥ 0 then (decide (kd = 1 ∧ fr ≠ 0 ∧ 0 < pe ∧ 0 ≤ ph) && decide (nx ph pe t = t)) else false), ?_, ?_⟩
  · unfold channel_Due.f
    by_cases h0 : t ≥ 0
    · rw [if_pos h0, if_pos h0]
      by_cases h : kd = 1 ∧ fr ≠ 0 ∧ 0 < pe ∧ 0 ≤ ph
      · rw [next_c l hph hpe ht h]
        simp only [Option.bind_some, h, ne_eq, not_false_iff, and_self, decide_true, Bool.true_and, Option.some.injEq]
        rw [Bool.eq_iff_iff]; simp
      · rw [(next_no l h).1]
        simp only [Option.bind_some, h, decide_false, Bool.false_and, Option.some.injEq]
        rw [beq_eq_false_iff_ne]
        omega
    · rw [if_neg h0, if_neg h0]
  · unfold bulkheadref18_Due.f
    rw [(takes_eq kd fr l' ph pe).2]
    simp only [Option.bind_some]
    by_cases h : kd = 1 ∧ fr ≠ 0 ∧ 0 < pe ∧ 0 ≤ ph
    · obtain ⟨h1, h2, h3, h4⟩ := h
      simp only [h1, h2, h3, h4, ne_eq, not_false_iff, and_self, decide_true, if_true, Bool.true_and]
      unfold In64 at *
      by_cases c1 : t ≥ ph
      · rw [if_pos c1, if_pos (show t ≥ 0 by omega)]
        by_cases c2 : t < 1099511627776
        · rw [if_pos c2, if_neg (show ¬ pe = 0 by omega), wrap_in (x := t - ph) (by omega) (by omega), Int.tmod_eq_emod_of_nonneg (show 0 ≤ t - ph by omega)]
          have g0 := Int.emod_nonneg (t - ph) (show pe ≠ 0 by omega)
          have g1 := Int.emod_lt_of_pos (t - ph) (show 0 < pe by omega)
          unfold nx
          rw [if_neg (show ¬ ph ≥ 1099511627776 by omega)]
          by_cases c3 : t ≤ ph
          · have e : t = ph := by omega
            subst e
            simp
          · rw [if_neg c3, if_neg (by omega)]
            generalize (t - ph) % pe = r at *
            by_cases c5 : r = 0
            · simp [c5]
            · rw [if_neg c5]
              simp only [Option.some.injEq]
              rw [show (r == 0) = false from by simpa using c5]
              symm
              rw [decide_eq_false_iff_not]
              split <;> omega
        · rw [if_neg c2]
          simp only [Option.some.injEq]
          symm
          rw [decide_eq_false_iff_not]
          unfold nx
          split
          · omega
          · split
            · omega
            · rw [if_pos (by omega)]; omega
      · rw [if_neg c1]
        simp only [Option.some.injEq]
        symm
        by_cases h0 : t ≥ 0
        · rw [if_pos h0, decide_eq_false_iff_not]
          unfold nx
          split
          · omega
          · rw [if_pos (by omega)]; omega
        · rw [if_neg h0]
    · simp only [h, decide_false, Bool.false_eq_true, if_false, Bool.false_and]
      split <;> rfl

theorem same_go (L : List Int) (hL : L.length * 8 ≤ 140737488355328) : ∀ (d k : Nat) (i : Int), 0 ≤ i → i ≤ L.length → (L.length : Int) - i = d → d < k → bulkheadlaw18_sameInts.l0 k L L i = some true := by
  intro d
  induction d with
  | zero =>
    intro k i h0 h1 hd hk
    obtain ⟨k, rfl⟩ : ∃ m, k = m + 1 := ⟨k - 1, by omega⟩
    simp only [bulkheadlaw18_sameInts.l0]
    rw [if_neg (by omega)]
  | succ d ih =>
    intro k i h0 h1 hd hk
    obtain ⟨k, rfl⟩ : ∃ m, k = m + 1 := ⟨k - 1, by omega⟩
    simp only [bulkheadlaw18_sameInts.l0]
    rw [if_pos (by omega), if_pos h0, if_pos (by omega), if_pos trivial, wrap_in (by omega) (by omega)]
    exact ih k (i + 1) (by omega) (by omega) (by omega) (by omega)
theorem same_self (L : List Int) (hL : L.length * 8 ≤ 140737488355328) : ∃ k, bulkheadlaw18_sameInts.f k L L = some true := by
  refine ⟨L.length + 1, ?_⟩
  unfold bulkheadlaw18_sameInts.f
  rw [if_pos rfl]
  exact same_go L hL L.length (L.length + 1) 0 (by omega) (by omega) (by omega) (by omega)
end Go.Proofs.Ytjnnmgjpnbfhlaa.Ticks
