import Derived.Test.YtjnnmgjpnbfhlaaPOncex9
import Derived.Test.YtjnnmgjpnbfhlaaGp
namespace Go.Proofs.Ytjnnmgjpnbfhlaa.Pure
open Go.RowKit Go.Proofs.Ytjnnmgjpnbfhlaa.POnce Go.Proofs.YtjnnmgjpnbfhlaaW.PrintWords Go.Proofs.YtjnnmgjpnbfhlaaW.PrintLast Go.Proofs.YtjnnmgjpnbfhlaaW.PrintMore
set_option linter.unusedVariables false
set_option linter.unusedSimpArgs false

def In64 (x : Int) : Prop := -9223372036854775808 ≤ x ∧ x ≤ 9223372036854775807
theorem wrap_in {x : Int} (h0 : -9223372036854775808 ≤ x) (h1 : x ≤ 9223372036854775807) : wrap64 x = x := by unfold wrap64; omega
/-- Next, by cases -/
def nx (ph pe t : Int) : Int :=
  if ph ≥ 1099511627776 then -1 else if t ≤ ph then ph else if t ≥ 1099511627776 then -1 else
  if (t - ph) % pe = 0 then t else if pe - (t - ph) % pe ≥ 1099511627776 - t then -1 else t + pe - (t - ph) % pe

theorem takes_eq (kd fr : Int) (l : List Int) (ph pe : Int) : channel_takes.f kd fr l ph pe = some (decide (kd = 1 ∧ fr ≠ 0 ∧ 0 < pe ∧ 0 ≤ ph)) := by
  unfold channel_takes.f
  by_cases h1 : kd = 1 <;> by_cases h2 : fr = 0 <;> by_cases h3 : pe > 0 <;> by_cases h4 : ph ≥ 0 <;> simp [h1, h2, h3, h4] <;> omega

theorem next_c (K : Nat) {kd fr ph pe t : Int} (l : List Int) (hph : In64 ph) (hpe : In64 pe) (ht : In64 t) (h : kd = 1 ∧ fr ≠ 0 ∧ 0 < pe ∧ 0 ≤ ph) : channel_Next.f (K + 1) kd fr l ph pe t = some (nx ph pe t) := by
  obtain ⟨h1, h2, h3, h4⟩ := h
  unfold In64 at *
  unfold channel_Next.f num_NextAt.f nx mx
  rw [takes_eq kd fr l ph pe]
  simp only [h1, h2, h3, h4, ne_eq, not_false_iff, and_self, decide_true, Option.bind_some, if_true]
  rw [if_neg (by omega), show decide (ph < 0) = false from by simp; omega]
  simp only [num_NextAt.j0, Bool.false_eq_true, if_false]
  by_cases c1 : t ≤ ph
  · rw [if_pos (by split <;> omega)]
    simp only [Option.bind_some, if_true]
    by_cases c2 : ph ≥ 1099511627776
    · rw [if_pos c2, if_pos c2]
    · rw [if_neg c2, if_neg c2, if_pos c1]
  · have e1 : (if t < 0 then (0 : Int) else t) = t := by rw [if_neg (by omega)]
    have e4 : (if 0 ≤ t then t else (0 : Int)) = t := by split <;> omega
    have e5 : (if 0 < t then t else (0 : Int)) = t := by split <;> omega
    simp only [e1]
    rw [if_neg c1, if_neg (show ¬ pe = 0 by omega), wrap_in (x := t - ph) (by omega) (by omega), Int.tmod_eq_emod_of_nonneg (show 0 ≤ t - ph by omega)]
    have g0 := Int.emod_nonneg (t - ph) (show pe ≠ 0 by omega)
    have g1 := Int.emod_lt_of_pos (t - ph) (show 0 < pe by omega)
    generalize (t - ph) % pe = r at *
    by_cases c3 : r = 0
    · rw [if_pos c3]
      simp only [Option.bind_some, if_true]
      by_cases c2 : ph ≥ 1099511627776
      · rw [if_pos (by omega), if_pos c2]
      · rw [if_neg c2, if_neg c1]
        by_cases c4 : t ≥ 1099511627776
        · rw [if_pos c4, if_pos c4]
        · rw [if_neg c4, if_neg c4, if_pos c3]
    · rw [if_neg c3]
      simp only [Option.bind_some]
      rw [wrap_in (x := t - r) (by omega) (by omega)]
      by_cases c5 : t - r + pe ≤ 9223372036854775807
      · rw [wrap_in (x := t - r + pe) (by omega) c5, if_pos (by simp; omega)]
        have e7 : (if t - r + pe < 0 then (0 : Int) else t - r + pe) = t - r + pe := by split <;> omega
        simp only [mx, e7]
        by_cases c2 : ph ≥ 1099511627776
        · rw [if_pos (by omega), if_pos c2]
        · rw [if_neg c2, if_neg c1]
          by_cases c4 : t ≥ 1099511627776
          · rw [if_pos (by omega), if_pos c4]
          · rw [if_neg c4, if_neg c3]
            by_cases c6 : pe - r ≥ 1099511627776 - t
            · rw [if_pos (by omega), if_pos c6]
            · rw [if_neg (by omega), if_neg c6]
              congr 1
              omega
      · have e7 : wrap64 (t - r + pe) = t - r + pe - 18446744073709551616 := by unfold wrap64; omega
        rw [e7, if_neg (by simp; omega)]
        by_cases c2 : ph ≥ 1099511627776
        · rw [if_pos c2]
        · rw [if_neg c2, if_neg c1]
          by_cases c4 : t ≥ 1099511627776
          · rw [if_pos c4]
          · rw [if_neg c4, if_neg c3, if_pos (by omega)]


theorem next_no (K : Nat) {kd fr ph pe t : Int} (l : List Int) (h : ¬ (kd = 1 ∧ fr ≠ 0 ∧ 0 < pe ∧ 0 ≤ ph)) : channel_Next.f K kd fr l ph pe t = some (-1) := by
  unfold channel_Next.f
  rw [takes_eq kd fr l ph pe]
  simp only [h, decide_false, Option.bind_some, Bool.false_eq_true, if_false]
/-- is it due? -/
def due (ph pe t : Int) : Bool := decide (ph ≤ t ∧ t < 1099511627776 ∧ (t - ph) % pe = 0)
theorem due_c (K : Nat) {kd fr ph pe t : Int} (l : List Int) (hph : In64 ph) (hpe : In64 pe) (ht : In64 t) (h : kd = 1 ∧ fr ≠ 0 ∧ 0 < pe ∧ 0 ≤ ph) : channel_Due.f (K + 1) kd fr l ph pe t = some (due ph pe t) := by
  unfold channel_Due.f due
  obtain ⟨_, _, h3, h4⟩ := id h
  by_cases h0 : t ≥ 0
  · rw [if_pos h0, next_c K l hph hpe ht h]
    simp only [Option.bind_some]
    congr 1
    rw [Bool.eq_iff_iff, beq_iff_eq, decide_eq_true_iff]
    unfold nx
    have g0 := Int.emod_nonneg (t - ph) (show pe ≠ 0 by omega)
    have g1 := Int.emod_lt_of_pos (t - ph) h3
    by_cases c1 : ph ≥ 1099511627776
    · rw [if_pos c1]; omega
    · rw [if_neg c1]
      by_cases c2 : t ≤ ph
      · rw [if_pos c2]
        constructor
        · intro e; subst e; refine ⟨Int.le_refl _, by omega, by simp⟩
        · intro e; omega
      · rw [if_neg c2]
        by_cases c3 : t ≥ 1099511627776
        · rw [if_pos c3]; omega
        · rw [if_neg c3]
          generalize (t - ph) % pe = r at *
          by_cases c4 : r = 0
          · rw [if_pos c4]; omega
          · rw [if_neg c4]
            split <;> omega
  · rw [if_neg h0]
    congr 1
    symm
    rw [decide_eq_false_iff_not]
    omega
theorem due_no (K : Nat) {kd fr ph pe t : Int} (l : List Int) (h : ¬ (kd = 1 ∧ fr ≠ 0 ∧ 0 < pe ∧ 0 ≤ ph)) : channel_Due.f K kd fr l ph pe t = some false := by
  unfold channel_Due.f
  split
  · rename_i h0
    rw [next_no K l h]
    simp only [Option.bind_some]
    congr 1
    rw [beq_eq_false_iff_ne]; omega
  · rfl
/-- what Next is -/
theorem nx_facts {ph pe t : Int} (h3 : 0 < pe) (h4 : 0 ≤ ph) (hn : nx ph pe t ≠ -1) : t ≤ nx ph pe t ∧ ph ≤ nx ph pe t ∧ nx ph pe t < 1099511627776 ∧ (nx ph pe t - ph) % pe = 0 ∧ (ph ≤ t → nx ph pe t - t < pe) ∧ (t < ph → nx ph pe t = ph) ∧
    (∀ u, t ≤ u → u < nx ph pe t → due ph pe u = false) := by
  have g0 := Int.emod_nonneg (t - ph) (show pe ≠ 0 by omega)
  have g1 := Int.emod_lt_of_pos (t - ph) h3
  unfold nx at hn ⊢
  by_cases c1 : ph ≥ 1099511627776
  · rw [if_pos c1] at hn; exact absurd rfl hn
  · rw [if_neg c1] at hn ⊢
    by_cases c2 : t ≤ ph
    · rw [if_pos c2]
      refine ⟨c2, Int.le_refl _, by omega, by simp, by omega, fun _ => rfl, fun u hu1 hu2 => ?_⟩
      unfold due; rw [decide_eq_false_iff_not]; omega
    · rw [if_neg c2] at hn ⊢
      by_cases c3 : t ≥ 1099511627776
      · rw [if_pos c3] at hn; exact absurd rfl hn
      · rw [if_neg c3] at hn ⊢
        by_cases c4 : (t - ph) % pe = 0
        · rw [if_pos c4]
          exact ⟨Int.le_refl _, by omega, by omega, c4, by omega, by omega, fun u hu1 hu2 => by omega⟩
        · rw [if_neg c4] at hn ⊢
          by_cases c5 : pe - (t - ph) % pe ≥ 1099511627776 - t
          · rw [if_pos c5] at hn; exact absurd rfl hn
          · rw [if_neg c5]
            have hd := Int.emod_add_mul_ediv (t - ph) pe
            refine ⟨by omega, by omega, by omega, ?_, by omega, by omega, fun u hu1 hu2 => ?_⟩
            · have e : t + pe - (t - ph) % pe - ph = pe * ((t - ph) / pe + 1) := by
                rw [Int.mul_add, Int.mul_one]; omega
              rw [e, Int.mul_emod_right]
            · unfold due
              rw [decide_eq_false_iff_not]
              rintro ⟨_, _, hz⟩
              -- u - ph = (t - ph) + (u - t), so its rest is the sum of both, which is below pe and above 0
              have e : u - ph = ((t - ph) % pe + (u - t)) + pe * ((t - ph) / pe) := by omega
              rw [e, Int.add_mul_emod_self_left, Int.emod_eq_of_lt (by omega) (by omega)] at hz
              omega
theorem due_later {ph pe n g : Int} (h3 : 0 < pe) (h1 : ph ≤ n) (hz : (n - ph) % pe = 0) (hg : 0 ≤ g) (hl : n + g < 1099511627776) : due ph pe (n + g) = decide (g % pe = 0) := by
  unfold due
  have e : (n + g - ph) % pe = g % pe := by
    rw [show n + g - ph = (n - ph) + g from by omega, Int.add_emod, hz, Int.zero_add, Int.emod_emod_of_dvd _ (Int.dvd_refl _)]
  rw [e]
  rw [Bool.eq_iff_iff, decide_eq_true_iff, decide_eq_true_iff]
  omega

theorem nx_none {ph pe t : Int} (h3 : 0 < pe) (h4 : 0 ≤ ph) (hn : nx ph pe t = -1) : due ph pe t = false ∧ (ph ≥ 1099511627776 ∨ t ≥ 1099511627776 ∨ (t > ph ∧ 1099511627776 - t ≤ pe)) := by
  have g0 := Int.emod_nonneg (t - ph) (show pe ≠ 0 by omega)
  have g1 := Int.emod_lt_of_pos (t - ph) h3
  unfold nx at hn
  unfold due
  rw [decide_eq_false_iff_not]
  by_cases c1 : ph ≥ 1099511627776
  · exact ⟨by omega, .inl c1⟩
  · rw [if_neg c1] at hn
    by_cases c2 : t ≤ ph
    · rw [if_pos c2] at hn; omega
    · rw [if_neg c2] at hn
      by_cases c3 : t ≥ 1099511627776
      · exact ⟨by omega, .inr (.inl c3)⟩
      · rw [if_neg c3] at hn
        by_cases c4 : (t - ph) % pe = 0
        · rw [if_pos c4] at hn; omega
        · rw [if_neg c4] at hn
          by_cases c5 : pe - (t - ph) % pe ≥ 1099511627776 - t
          · exact ⟨fun h => c4 h.2.2, .inr (.inr ⟨by omega, by omega⟩)⟩
          · rw [if_neg c5] at hn; omega
theorem parts_lit : channel_Parts.f [] [(⟨2, 0, true, 0, 0, 0⟩ : S47), (⟨3, 0, false, 0, 0, 0⟩ : S47)] [(⟨1, 1, [2], 3, 10⟩ : S24)] 1 = some (2, [3], 0) := by decide
theorem to_lit : channel_ToPort.f [] [(⟨2, 0, true, 0, 0, 0⟩ : S47), (⟨3, 0, false, 0, 0, 0⟩ : S47)] [(⟨1, 1, [2], 3, 10⟩ : S24)] 2 = some 1 := by decide
theorem from_lit : channel_FromPort.f [] [(⟨2, 0, true, 0, 0, 0⟩ : S47), (⟨3, 0, false, 0, 0, 0⟩ : S47)] [(⟨1, 1, [2], 3, 10⟩ : S24)] 1 = some 1 := by decide
theorem same_lit (K : Nat) : bulkheadlaw18_sameInts.f (K + 2) [3] [3] = some true := by
  have e : wrap64 1 = 1 := wrap_in (by omega) (by omega)
  unfold bulkheadlaw18_sameInts.f
  simp [bulkheadlaw18_sameInts.l0, e]
theorem known_true (K : Nat) : bulkheadlaw18_known.f (K + 5) = some true := by
  have d1 := due_c (K + 4) (kd := 1) (fr := 1) (ph := 3) (pe := 10) (t := 13) [2] (by unfold In64; omega) (by unfold In64; omega) (by unfold In64; omega) (by omega)
  have d2 := due_c (K + 4) (kd := 1) (fr := 1) (ph := 3) (pe := 10) (t := 12) [2] (by unfold In64; omega) (by unfold In64; omega) (by unfold In64; omega) (by omega)
  have d3 := next_c (K + 4) (kd := 1) (fr := 1) (ph := 3) (pe := 10) (t := 4) [2] (by unfold In64; omega) (by unfold In64; omega) (by unfold In64; omega) (by omega)
  have e1 : due 3 10 13 = true := by decide
  have e2 : due 3 10 12 = false := by decide
  have e3 : nx 3 10 4 = 13 := by decide
  rw [e1] at d1
  rw [e2] at d2
  rw [e3] at d3
  unfold bulkheadlaw18_known.f
  rw [Option.bind_some, Option.bind_some, Option.bind_some, parts_lit, Option.bind_some, d1, Option.bind_some, if_pos rfl, d2, Option.bind_some, if_neg (by decide), d3, Option.bind_some, if_pos rfl]
  simp only [if_true]
  rw [same_lit (K + 3), Option.bind_some, if_pos rfl, to_lit, Option.bind_some, if_pos rfl, from_lit, Option.bind_some]
  rfl
theorem ChannelOnce : bulkheadlaw18_ChannelOnce.Pure := by
  intro kd fr ph pe t g w0 w1 w2 w3 w4 w5
  have b2 : In64 ph := bounds_i64 w2
  have b3 : In64 pe := bounds_i64 w3
  have b4 : In64 t := bounds_i64 w4
  have b5 : In64 g := bounds_i64 w5
  clear w0 w1 w2 w3 w4 w5
  obtain ⟨K, hK⟩ : ∃ K : Nat, K = 20 := ⟨_, rfl⟩
  refine ⟨K + 6, ?_⟩
  unfold bulkheadlaw18_ChannelOnce.f
  by_cases h : kd = 1 ∧ fr ≠ 0 ∧ 0 < pe ∧ 0 ≤ ph
  · have hnx := next_c (K + 5) [] b2 b3 b4 h
    obtain ⟨h1, h2, h3, h4⟩ := id h
    have hdu := fun (u : Int) (hu : In64 u) (K' : Nat) => due_c K' (t := u) [] b2 b3 hu h
    rw [hnx, Option.bind_some, known_true (K + 1), Option.bind_some, if_pos rfl, if_pos h1, if_neg h2, if_neg (by omega), show decide (ph < 0) = false from by simp; omega]
    simp only [bulkheadlaw18_ChannelOnce.j0]
    rw [if_neg (by decide)]
    by_cases hn : nx ph pe t = -1
    · obtain ⟨n1, n2⟩ := nx_none h3 h4 hn
      rw [if_pos hn, hdu t b4 (K + 4), Option.bind_some, n1, if_neg (by decide)]
      unfold In64 at *
      by_cases c1 : ph ≥ 1099511627776
      · rw [if_pos c1]
      · rw [if_neg c1]
        by_cases c2 : t ≥ 1099511627776
        · rw [if_pos c2]
        · rw [if_neg c2, if_pos (by omega), wrap_in (by omega) (by omega)]
          congr 1
          rw [decide_eq_true_iff]; omega
    · obtain ⟨f1, f2, f3, f4, f5, f6, f7⟩ := nx_facts h3 h4 hn
      rw [if_neg hn]
      generalize nx ph pe t = n at *
      have bn : In64 n := by unfold In64 at *; omega
      have hdn : due ph pe n = true := by unfold due; rw [decide_eq_true_iff]; exact ⟨f2, f3, f4⟩
      have hd0 := hdu n bn (K + 4)
      have hlast : bulkheadlaw18_ChannelOnce.j1 (K + 5) pe t g n false kd fr ph pe = some true := by
        simp only [bulkheadlaw18_ChannelOnce.j1]
        rw [if_neg (by decide)]
        have hj2 : ∀ b : Bool, b = decide (g < 1 ∨ g > 1000) → bulkheadlaw18_ChannelOnce.j2 (K + 4) pe t g n b kd fr ph pe = some true := by
          intro b hb
          simp only [bulkheadlaw18_ChannelOnce.j2]
          by_cases hg : g < 1 ∨ g > 1000
          · rw [if_pos (by rw [hb]; exact decide_eq_true hg)]
          · have hgb : b = false := by rw [hb]; exact decide_eq_false hg
            subst hgb
            rw [if_neg (by decide)]
            have hlate : ∀ K', (if wrap64 (n + g) ≥ 1099511627776 then some true else (channel_Due.f (K' + 1) kd fr ([] : List Int) ph pe (wrap64 (n + g))).bind fun t279 => if pe = 0 then none else some (t279 == (Int.tmod g pe == 0))) = some true := by
              intro K'
              have e1 : wrap64 (n + g) = n + g := by unfold In64 at *; exact wrap_in (by omega) (by omega)
              rw [e1]
              by_cases hl : n + g ≥ 1099511627776
              · rw [if_pos hl]
              · rw [if_neg hl, hdu (n + g) (by unfold In64 at *; omega) K', Option.bind_some, if_neg (by omega), due_later h3 f2 f4 (by omega) (by omega), Int.tmod_eq_emod_of_nonneg (by omega)]
                congr 1
                rw [beq_iff_eq, Bool.eq_iff_iff, decide_eq_true_iff, beq_iff_eq]
            by_cases c4 : t ≥ 0
            · rw [if_pos c4]
              by_cases c5 : t < n
              · have e1 : wrap64 (n - t) = n - t := by unfold In64 at *; exact wrap_in (by omega) (by omega)
                have m0 := Int.emod_nonneg g (show n - t ≠ 0 by omega)
                have m1 := Int.emod_lt_of_pos g (show 0 < n - t by omega)
                rw [if_pos c5, e1, if_neg (by omega), Int.tmod_eq_emod_of_nonneg (by omega)]
                have e2 : wrap64 (t + g % (n - t)) = t + g % (n - t) := by unfold In64 at *; exact wrap_in (by omega) (by omega)
                rw [e2, hdu (t + g % (n - t)) (by unfold In64 at *; omega) (K + 2), Option.bind_some, f7 _ (by omega) (by omega), if_neg (by decide)]
                exact hlate (K + 2)
              · rw [if_neg c5]
                exact hlate (K + 2)
            · rw [if_neg c4]
              exact hlate (K + 2)
        by_cases c3 : g < 1
        · rw [if_pos c3]
          exact hj2 true (by symm; rw [decide_eq_true_iff]; exact .inl c3)
        · rw [if_neg c3]
          refine hj2 _ ?_
          rw [Bool.eq_iff_iff, decide_eq_true_iff, decide_eq_true_iff]
          constructor
          · intro hh; exact .inr hh
          · intro hh; omega
      unfold In64 at *
      rw [if_neg (by omega), if_neg (by omega), if_neg (by omega), if_neg (by omega), wrap_in (x := n - ph) (by omega) (by omega), Int.tmod_eq_emod_of_nonneg (by omega), if_pos f4, hd0, Option.bind_some, hdn, if_pos rfl]
      by_cases c1 : t ≥ ph
      · rw [if_pos c1, wrap_in (x := n - t) (by omega) (by omega), if_neg (by have := f5 c1; omega), if_neg (by omega)]
        exact hlast
      · rw [if_neg c1, if_pos (by omega), show (n != ph) = false from by have := f6 (by omega); subst this; simp]
        exact hlast
  · have hdu := fun (u : Int) (K' : Nat) => due_no K' (t := u) (ph := ph) (pe := pe) (kd := kd) (fr := fr) [] h
    rw [next_no (K + 6) [] h, Option.bind_some, known_true (K + 1), Option.bind_some, if_pos rfl]
    have hj : bulkheadlaw18_ChannelOnce.j0 (K + 6) ph pe t g (-1) true kd fr ph pe = some true := by
      simp only [bulkheadlaw18_ChannelOnce.j0]
      rw [if_pos trivial, if_pos trivial, hdu t (K + 5), Option.bind_some, if_neg (by decide), hdu ph (K + 5), Option.bind_some]
      rfl
    by_cases c1 : kd = 1
    · rw [if_pos c1]
      by_cases c2 : fr = 0
      · rw [if_pos c2]; exact hj
      · rw [if_neg c2]
        by_cases c3 : pe < 1
        · rw [if_pos c3]; exact hj
        · rw [if_neg c3, show decide (ph < 0) = true from decide_eq_true (by omega)]; exact hj
    · rw [if_neg c1]; exact hj
end Go.Proofs.Ytjnnmgjpnbfhlaa.Pure
