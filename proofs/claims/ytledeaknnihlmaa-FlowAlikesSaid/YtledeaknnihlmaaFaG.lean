import Derived.Test.YtledeaknnihlmaaFaD
import Derived.Test.YtledeaknnihlmaaLiftC
import Derived.Test.YtledeaknnihlmaaSf
import Derived.Lib.AppendIntMem
import Derived.Lib.SlKeysI
namespace Go.Proofs.Ytledeaknnihlmaa.L
open Go Go.Lift Go.RowKit
set_option linter.unusedVariables false
set_option linter.unusedSimpArgs false
def GW (_ : World) : Prop := True
/-! ### slices.Sort, slices.Compact -/
theorem ok55 : FnOk Try.prog GW 55 ⟨s55, d55⟩ := by
  intro k (x : List Int × Unit) r hr w S vs F hgl hargs hn hS
  obtain ⟨v0, vs0, F1, F2, rfl, rfl, h0, rfl, rfl⟩ := hargs
  have hr : d55 k x = some r := hr
  unfold d55 at hr
  split at hr <;> try (cases hr; done)
  rename_i hb
  obtain rfl := Option.some.inj hr
  rw [List.append_nil] at *
  obtain ⟨hF, hown⟩ := row_of_rz (k := .int .i64) rfl h0
  have hl : (x.1.mergeSort fun x y => decide (x ≤ y)).length = x.1.length := List.length_mergeSort _
  rcases hown.2 with ⟨rfl, hx⟩ | ⟨g, cap, cur, rfl, _, hg, hc1, hc2, hc3, ht⟩
  · rw [hF]
    refine (Try.slices_Sort_int_none none 0 w).mono fun e w' ⟨he, hw⟩ => ?_
    subst hw
    refine ⟨[], [], [], he, ⟨rfl, rfl, rfl, Nat.le_refl _, fun _ _ _ => rfl⟩, by simp, by simp, ⟨rfl, rfl⟩, ⟨_, _, [], [], rfl, rfl, ?_, rfl⟩⟩
    have : x.1 = [] := List.length_eq_zero_iff.1 hx
    exact ⟨_, rfl, .inl ⟨rfl, by show List.mergeSort x.1 _ = []; rw [this]; exact List.mergeSort_nil, rfl⟩⟩
  · have hlt : g < w.heap.size := (Array.getElem?_eq_some_iff.1 hg).1
    have hH := holds_of_block_i (w := w) (g := g) hg (ss := x.1) (by rw [Nat.mul_one] at ht; exact ht)
    rw [hF]
    refine (Try.slices_Sort_int g 0 cap x.1 w hH hlt hb).mono fun e w' ⟨he, n, os, hw⟩ => ?_
    have hrow := ownsRow_sorted_i (w := w) (base := 0) (g := g) (cap := cap) (n := n) (os := os) hl (Nat.zero_le _) hg hc1 hc2 hc3
    have hgr := grownBy_sorted_i (w := w) (g := g) (n := n) (os := os) (x.1.mergeSort fun x y => decide (x ≤ y)).toArray
    subst hw
    refine ⟨[], [], [g], he, grown_fr hgr (by simp [Value.ownBlock]), by simp, by simp [Value.ownBlock], ⟨rfl, rfl⟩, ⟨_, _, [g], [], rfl, rfl, ?_, rfl⟩⟩
    have hrow : World.ownsRow (Go.Sort.grow (Go.Sort.putRow encZ (Go.Sort.ahead w n) g 0 (x.1.mergeSort fun x y => decide (x ≤ y)).toArray) os) 0 3 1 (.slice (some ⟨g, 0, none⟩) x.1.length cap) (x.1.mergeSort fun x y => decide (x ≤ y)).length ((x.1.mergeSort fun x y => decide (x ≤ y)).map (enc1 (.int .i64))) := by
      rw [hl]; exact hrow
    exact rz_of_row (k := .int .i64) rfl hrow
theorem ok56 : FnOk Try.prog GW 56 ⟨s56, d56⟩ := by
  intro k (x : List Int × Unit) r hr w S vs F hgl hargs hn hS
  obtain ⟨v0, vs0, F1, F2, rfl, rfl, h0, rfl, rfl⟩ := hargs
  obtain rfl := Option.some.inj (show some _ = some r from hr)
  rw [List.append_nil] at *
  obtain ⟨hF, hown⟩ := row_of_rz (k := .int .i64) rfl h0
  rcases hown.2 with ⟨rfl, hx⟩ | ⟨g, cap, cur, rfl, _, hg, hc1, hc2, hc3, ht⟩
  · rw [hF]
    refine (Try.slices_Compact_int_empty none 0 w).mono fun e w' ⟨he, hw⟩ => ?_
    subst hw
    have : x.1 = [] := List.length_eq_zero_iff.1 hx
    refine ⟨[.slice none 0 0], [], [], he, ⟨rfl, rfl, rfl, Nat.le_refl _, fun _ _ _ => rfl⟩, by simp, by simp, ⟨_, _, [], [], rfl, rfl, ⟨_, rfl, .inl ⟨rfl, by rw [this]; rfl, rfl⟩⟩, rfl, rfl⟩, ⟨_, _, rfl, rfl⟩⟩
  · have hlt : g < w.heap.size := (Array.getElem?_eq_some_iff.1 hg).1
    have hH := holds_of_block_i (w := w) (g := g) hg (ss := x.1) (by rw [Nat.mul_one] at ht; exact ht)
    have hle : (Lib.compact x.1).length ≤ x.1.length := Lib.compact_length_le _
    rw [hF]
    refine (Try.slices_Compact_int g 0 cap x.1 w hH (by unfold maxLen at hc2; omega) hc1).mono fun e w' ⟨he, q, hw⟩ => ?_
    have hrow := Lib.ownsRow_putRow (enc := enc1 (.int .i64)) (q := q) hown (ys := Lib.compact x.1 ++ List.replicate (x.1.length - (Lib.compact x.1).length) 0) (by simp; omega) hle
    have hgr : w.grownBy (Go.Sort.putRow (Value.int .i64) (Go.Sort.ahead w q) g 0 (Lib.compact x.1 ++ List.replicate (x.1.length - (Lib.compact x.1).length) 0).toArray) (some g) := by
      have := grownBy_sorted_i (w := w) (g := g) (n := q) (os := #[]) (Lib.compact x.1 ++ List.replicate (x.1.length - (Lib.compact x.1).length) 0).toArray
      simpa using this
    subst hw
    rw [List.take_left] at hrow
    refine ⟨[.slice (some ⟨g, 0, none⟩) (Lib.compact x.1).length cap], [g], [], he, grown_fr hgr (by simp [Value.ownBlock]), by simp, by simp [Value.ownBlock], ⟨_, _, [g], [], rfl, rfl, rz_of_row (k := .int .i64) rfl hrow, rfl, rfl⟩, ⟨_, _, rfl, rfl⟩⟩
end Go.Proofs.Ytledeaknnihlmaa.L
