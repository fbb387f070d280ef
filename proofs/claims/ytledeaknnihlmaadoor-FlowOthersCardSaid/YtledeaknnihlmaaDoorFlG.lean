import Derived.Test.YtledeaknnihlmaaDoorFlD
import Derived.Test.YtledeaknnihlmaaDoorFlB
import Derived.Test.YtledeaknnihlmaaDoorSf
import Derived.Lib.AppendIntMem
import Derived.Lib.SlKeysI
namespace Go.Proofs.YtledeaknnihlmaaDoor.L
open Go Go.Lift Go.RowKit
set_option linter.unusedVariables false
set_option linter.unusedSimpArgs false

/-- What the world must hold for the library. -/
structure GW (w : World) : Prop where
  t : Lib.TabIs Tryd.prog w "internal/strconv.uint64pow10" .u64 Lib.pow10Tab
theorem GW.below {w w' : World} (h : GW w) (hb : Below w.heap.size w w') : GW w' :=
  ⟨Lib.tabBelow_of_tabIs h.t w' hb⟩


theorem ok34 : FnOk Tryd.prog GW 34 ⟨s34, d34⟩ := by
  refine fnOk_of rfl fun k (x : Int × Unit) r hr w S vs hG ⟨v0, vs0, e0, h0, hv⟩ => ?_
  obtain ⟨rfl, _⟩ := hv
  subst e0
  obtain rfl := val_int h0
  have hr : d34 k x = some r := hr
  unfold d34 at hr
  split at hr <;> try (cases hr; done)
  rename_i hb
  obtain rfl := Option.some.inj hr
  exact (Tryd.strconv_Itoa x.1 hb.1 hb.2 w hG.t).mono fun e w' h2 => ⟨[.string _], [], h2.1, by obtain ⟨k, os, rfl⟩ := h2.2; exact Lib.below_grow _ _ (Nat.le_refl _) k os, List.nodup_nil, by simp, ⟨_, [], rfl, res_str _ _ _, rfl, rfl⟩⟩

/-! ### builders -/
theorem bld_rz {w : World} {S : Nat → Prop} {F : List Nat} {x : ByteArray} {v : Value} (h : ∃ cs, Shows (.bld 75 5) v cs ∧ Rz w S (.bld 75 5) (.ow .sh) F x cs) : BldAt w 75 5 F x [v] := by
  obtain ⟨cs, h1, h2⟩ := h
  have h1 : cs = [v] := h1
  subst h1
  exact h2
theorem one_unk {w : World} {S : Nat → Prop} (v : Value) (h : v.oneCell' = true) (hs : Shows .unk v [v]) : ∃ cs, Shows .unk v cs ∧ Rz w S .unk .sh [] () cs := ⟨[v], hs, rfl, rfl, fun u hu => by rw [List.mem_singleton.1 hu]; exact h⟩

theorem ok33 : FnOk Tryd.prog GW 33 ⟨s33, d33⟩ := by
  intro k (x : ByteArray × ByteArray × Unit) r hr w S vs F hgl hargs hn hS
  obtain ⟨v0, vs0, F1, F2, rfl, rfl, h0, v1, vs1, rfl, h1, rfl, rfl⟩ := hargs
  obtain rfl := val_str h1
  have hr : d33 k x = some r := hr
  unfold d33 at hr
  split at hr <;> try (cases hr; done)
  rename_i hb
  obtain rfl := Option.some.inj hr
  rw [List.append_nil] at *
  refine (bld_writeString F1 x.1 x.2.1 v0 w (bld_rz h0) hn hb).mono fun e w' ⟨he, F', hB, hfr, hnd, hF⟩ => ?_
  exact ⟨[.int .i64 x.2.1.size, .nilIface], [], F', he, hfr, by simpa using hnd, by simpa using hF, ⟨_, _, rfl, res_int _ _ _ _, _, _, rfl, one_unk _ rfl rfl, rfl, rfl⟩, ⟨_, _, F', [], rfl, by simp, ⟨[v0], rfl, hB⟩, ⟨_, _, rfl, rfl⟩⟩⟩
theorem ok35 : FnOk Tryd.prog GW 35 ⟨s35, d35⟩ := by
  intro k (x : ByteArray × Int × Unit) r hr w S vs F hgl hargs hn hS
  obtain ⟨v0, vs0, F1, F2, rfl, rfl, h0, v1, vs1, rfl, h1, rfl, rfl⟩ := hargs
  obtain rfl := val_int h1
  have hr : d35 k x = some r := hr
  unfold d35 at hr
  split at hr <;> try (cases hr; done)
  rename_i hb
  obtain rfl := Option.some.inj hr
  rw [List.append_nil] at *
  refine (bld_writeByte F1 x.1 x.2.1 v0 w (bld_rz h0) hn hb.1 hb.2.1 hb.2.2).mono fun e w' ⟨he, F', hB, hfr, hnd, hF⟩ => ?_
  exact ⟨[.nilIface], [], F', he, hfr, by simpa using hnd, by simpa using hF, ⟨_, _, rfl, one_unk _ rfl rfl, rfl, rfl⟩, ⟨_, _, F', [], rfl, by simp, ⟨[v0], rfl, hB⟩, ⟨_, _, rfl, rfl⟩⟩⟩
theorem ok36 : FnOk Tryd.prog GW 36 ⟨s36, d36⟩ := by
  intro k (x : ByteArray × Unit) r hr w S vs F hgl hargs hn hS
  obtain ⟨v0, vs0, F1, F2, rfl, rfl, h0, rfl, rfl⟩ := hargs
  obtain rfl := Option.some.inj (show some _ = some r from hr)
  rw [List.append_nil] at *
  refine (bld_string F1 x.1 v0 w (bld_rz h0)).mono fun e w' ⟨he, hfr⟩ => ?_
  exact ⟨[.string x.1], [], [], he, hfr, by simp, by simp, ⟨_, _, rfl, res_str _ _ _, rfl, rfl⟩, ⟨_, _, rfl, rfl⟩⟩

/-! ### slices.Sort, slices.Compact -/
theorem ok51 : FnOk Tryd.prog GW 51 ⟨s51, d51⟩ := by
  intro k (x : List Int × Unit) r hr w S vs F hgl hargs hn hS
  obtain ⟨v0, vs0, F1, F2, rfl, rfl, h0, rfl, rfl⟩ := hargs
  have hr : d51 k x = some r := hr
  unfold d51 at hr
  split at hr <;> try (cases hr; done)
  rename_i hb
  obtain rfl := Option.some.inj hr
  rw [List.append_nil] at *
  obtain ⟨hF, hown⟩ := row_of_rz (k := .int .i64) rfl h0
  have hl : (x.1.mergeSort fun x y => decide (x ≤ y)).length = x.1.length := List.length_mergeSort _
  rcases hown.2 with ⟨rfl, hx⟩ | ⟨g, cap, cur, rfl, _, hg, hc1, hc2, hc3, ht⟩
  · rw [hF]
    refine (Tryd.slices_Sort_int_none none 0 w).mono fun e w' ⟨he, hw⟩ => ?_
    subst hw
    refine ⟨[], [], [], he, ⟨rfl, rfl, rfl, Nat.le_refl _, fun _ _ _ => rfl⟩, by simp, by simp, ⟨rfl, rfl⟩, ⟨_, _, [], [], rfl, rfl, ?_, rfl⟩⟩
    have : x.1 = [] := List.length_eq_zero_iff.1 hx
    exact ⟨_, rfl, .inl ⟨rfl, by show List.mergeSort x.1 _ = []; rw [this]; exact List.mergeSort_nil, rfl⟩⟩
  · have hlt : g < w.heap.size := (Array.getElem?_eq_some_iff.1 hg).1
    have hH := holds_of_block_i (w := w) (g := g) hg (ss := x.1) (by rw [Nat.mul_one] at ht; exact ht)
    rw [hF]
    refine (Tryd.slices_Sort_int g 0 cap x.1 w hH hlt hb).mono fun e w' ⟨he, n, os, hw⟩ => ?_
    have hrow := ownsRow_sorted_i (w := w) (base := 0) (g := g) (cap := cap) (n := n) (os := os) hl (Nat.zero_le _) hg hc1 hc2 hc3
    have hgr := grownBy_sorted_i (w := w) (g := g) (n := n) (os := os) (x.1.mergeSort fun x y => decide (x ≤ y)).toArray
    subst hw
    refine ⟨[], [], [g], he, grown_fr hgr (by simp [Value.ownBlock]), by simp, by simp [Value.ownBlock], ⟨rfl, rfl⟩, ⟨_, _, [g], [], rfl, rfl, ?_, rfl⟩⟩
    have hrow : World.ownsRow (Go.Sort.grow (Go.Sort.putRow encZ (Go.Sort.ahead w n) g 0 (x.1.mergeSort fun x y => decide (x ≤ y)).toArray) os) 0 3 1 (.slice (some ⟨g, 0, none⟩) x.1.length cap) (x.1.mergeSort fun x y => decide (x ≤ y)).length ((x.1.mergeSort fun x y => decide (x ≤ y)).map (enc1 (.int .i64))) := by
      rw [hl]; exact hrow
    exact rz_of_row (k := .int .i64) rfl hrow
theorem ok52 : FnOk Tryd.prog GW 52 ⟨s52, d52⟩ := by
  intro k (x : List Int × Unit) r hr w S vs F hgl hargs hn hS
  obtain ⟨v0, vs0, F1, F2, rfl, rfl, h0, rfl, rfl⟩ := hargs
  obtain rfl := Option.some.inj (show some _ = some r from hr)
  rw [List.append_nil] at *
  obtain ⟨hF, hown⟩ := row_of_rz (k := .int .i64) rfl h0
  rcases hown.2 with ⟨rfl, hx⟩ | ⟨g, cap, cur, rfl, _, hg, hc1, hc2, hc3, ht⟩
  · rw [hF]
    refine (Tryd.slices_Compact_int_empty none 0 w).mono fun e w' ⟨he, hw⟩ => ?_
    subst hw
    have : x.1 = [] := List.length_eq_zero_iff.1 hx
    refine ⟨[.slice none 0 0], [], [], he, ⟨rfl, rfl, rfl, Nat.le_refl _, fun _ _ _ => rfl⟩, by simp, by simp, ⟨_, _, [], [], rfl, rfl, ⟨_, rfl, .inl ⟨rfl, by rw [this]; rfl, rfl⟩⟩, rfl, rfl⟩, ⟨_, _, rfl, rfl⟩⟩
  · have hlt : g < w.heap.size := (Array.getElem?_eq_some_iff.1 hg).1
    have hH := holds_of_block_i (w := w) (g := g) hg (ss := x.1) (by rw [Nat.mul_one] at ht; exact ht)
    have hle : (Lib.compact x.1).length ≤ x.1.length := Lib.compact_length_le _
    rw [hF]
    refine (Tryd.slices_Compact_int g 0 cap x.1 w hH (by unfold maxLen at hc2; omega) hc1).mono fun e w' ⟨he, q, hw⟩ => ?_
    have hrow := Lib.ownsRow_putRow (enc := enc1 (.int .i64)) (q := q) hown (ys := Lib.compact x.1 ++ List.replicate (x.1.length - (Lib.compact x.1).length) 0) (by simp; omega) hle
    have hgr : w.grownBy (Go.Sort.putRow (Value.int .i64) (Go.Sort.ahead w q) g 0 (Lib.compact x.1 ++ List.replicate (x.1.length - (Lib.compact x.1).length) 0).toArray) (some g) := by
      have := grownBy_sorted_i (w := w) (g := g) (n := q) (os := #[]) (Lib.compact x.1 ++ List.replicate (x.1.length - (Lib.compact x.1).length) 0).toArray
      simpa using this
    subst hw
    rw [List.take_left] at hrow
    refine ⟨[.slice (some ⟨g, 0, none⟩) (Lib.compact x.1).length cap], [g], [], he, grown_fr hgr (by simp [Value.ownBlock]), by simp, by simp [Value.ownBlock], ⟨_, _, [g], [], rfl, rfl, rz_of_row (k := .int .i64) rfl hrow, rfl, rfl⟩, ⟨_, _, rfl, rfl⟩⟩
end Go.Proofs.YtledeaknnihlmaaDoor.L
