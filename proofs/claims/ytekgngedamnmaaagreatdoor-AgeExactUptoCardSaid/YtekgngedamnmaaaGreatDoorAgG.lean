import Derived.Test.YtekgngedamnmaaaGreatDoorAgD
import Derived.Test.YtekgngedamnmaaaGreatDoorAgAs
import Derived.Test.YtekgngedamnmaaaGreatDoorLiftC
import Derived.Deep.QuietTactic
import Derived.BigQuiet
namespace Go.Proofs.YtekgngedamnmaaaGreatDoor.L
open Go Go.Lift Go.RowKit
set_option linter.unusedVariables false
set_option linter.unusedSimpArgs false

/-- What the world must hold for errors.As: the type of errors. -/
structure GW (w : World) : Prop where
  e : w.cell? ⟨0, 0, none⟩ = some (.iface 294 (.agg #[.pointer (some ⟨2, 172, none⟩)]))
theorem GW.below {w w' : World} (h : GW w) (hb : Below w.heap.size w w') : GW w' :=
  ⟨(hb.cell (World.block_lt_of_cell? w _ h.e)).trans h.e⟩

theorem face_nil (w : World) : Calls Tryz.prog 119 #[.nilIface] w fun e w' => e = .returned (.tuple #[.int .i64 0, .int .i64 0]) ∧ Below w.heap.size w w' := by
  go_enter Tryz.func119, Tryz.ntmps119
  go_wp2_with (first | (go_at_call 147; refine (as_nil _ _).mono ?_; rintro e w' ⟨rfl, rfl⟩))
  go_ret2
  exact ⟨rfl, Below.alloc (Below.refl _ _) (Nat.le_refl _) _⟩
set_option maxHeartbeats 4000000 in
theorem face_hit (b o : Nat) (r p : Int) (w : World) (hG : GW w) (h0 : w.cell? ⟨b, o, none⟩ = some (.int .i64 r)) (h1 : w.cell? ⟨b, o + 1, none⟩ = some (.int .i64 p)) : Calls Tryz.prog 119 #[.iface 205 (.pointer (some ⟨b, o, none⟩))] w fun e w' => e = .returned (.tuple #[.int .i64 r, .int .i64 p]) ∧ Below w.heap.size w w' := by
  have hlt : 0 < w.heap.size := World.block_lt_of_cell? w _ hG.e
  have hgA : (w.alloc (.cells #[.pointer none] 205)).cell? ⟨0, 0, none⟩ = some (.iface 294 (.agg #[.pointer (some ⟨2, 172, none⟩)])) := by
    rw [World.cell?_alloc_lt _ _ ⟨0, 0, none⟩ hlt]; exact hG.e
  have htA : (w.alloc (.cells #[.pointer none] 205)).cell? ⟨w.heap.size, 0, none⟩ = some (.pointer none) := by simp
  have hfA : (w.alloc (.cells #[.pointer none] 205)).frozen? ⟨w.heap.size, 0, none⟩ = false := by simp
  go_enter Tryz.func119, Tryz.ntmps119
  go_wp2_with (first | (go_at_call 147; refine (as_hit _ _ (.pointer none) _ hgA htA hfA).mono ?_; rintro e w' ⟨rfl, rfl⟩))
  generalize hW : (((((w.alloc (.cells #[.pointer (some ⟨b, o, none⟩)] 205)).alloc (.cells #[.pointer (some ⟨w.heap.size, 0, none⟩)] 209)).alloc (.cells #[.pointer (some ⟨2, 209, none⟩), .pointer (some ⟨w.heap.size + 1, 0, none⟩), .int .u64 150] 253)).alloc
      (.cells #[.pointer (some ⟨2, 209, none⟩), .pointer (some ⟨w.heap.size + 1, 0, none⟩), .int .u64 150] 253)).alloc (.cells #[.pointer (some ⟨b, o, none⟩)] 205)) = W5
  have hB : Below w.heap.size w W5 := by
    subst hW
    have b0 := Below.refl w.heap.size w
    have b1 := Below.alloc b0 (Nat.le_refl _) (.cells #[.pointer (some ⟨b, o, none⟩)] 205)
    have b2 := Below.alloc b1 (by simp) (.cells #[.pointer (some ⟨w.heap.size, 0, none⟩)] 209)
    have b3 := Below.alloc b2 (by simp; omega) (.cells #[.pointer (some ⟨2, 209, none⟩), .pointer (some ⟨w.heap.size + 1, 0, none⟩), .int .u64 150] 253)
    have b4 := Below.alloc b3 (by simp; omega) (.cells #[.pointer (some ⟨2, 209, none⟩), .pointer (some ⟨w.heap.size + 1, 0, none⟩), .int .u64 150] 253)
    exact Below.alloc b4 (by simp; omega) _
  have hv : W5.cell? ⟨w.heap.size, 0, none⟩ = some (.pointer (some ⟨b, o, none⟩)) := by
    subst hW
    rw [World.cell?_alloc_lt _ _ _ (by simp; omega), World.cell?_alloc_lt _ _ _ (by simp; omega), World.cell?_alloc_lt _ _ _ (by simp; omega), World.cell?_alloc_lt _ _ _ (by simp)]
    rw [World.cell?_alloc_at _ _ _ _ (by simp)]; rfl
  have h0' : W5.cell? ⟨b, o, none⟩ = some (.int .i64 r) := (hB.cell (World.block_lt_of_cell? w _ h0)).trans h0
  have h1' : W5.cell? ⟨b, o + 1, none⟩ = some (.int .i64 p) := (hB.cell (World.block_lt_of_cell? w _ h1)).trans h1
  clear hW
  go_quiet (fail)
  go_wp2
  go_ret2
  exact ⟨rfl, ⟨hB.os, hB.tape, hB.output, hB.size, hB.block⟩⟩

theorem ok119 : FnOk Tryz.prog GW 119 ⟨s119, d119⟩ := by
  refine fnOk_of rfl fun k (x : Option (Int × (Int × Unit)) × Unit) r hr w S vs hG ⟨v0, vs0, e0, ⟨cs0, c0, z0⟩, hv⟩ => ?_
  obtain ⟨rfl, _⟩ := hv
  subst e0
  obtain ⟨x, u⟩ := x
  have hr : d119 k (x, u) = some r := hr
  unfold d119 at hr
  have c0 : cs0 = [v0] := c0
  rcases z0 with h | ⟨_, ⟨h3, h4, _⟩ | ⟨y, u0, cs', h3, h4, h5, h6⟩⟩
  · cases h.1
  · rw [c0] at h3
    obtain rfl : v0 = .nilIface := (List.cons.inj h3).1
    have h4 : x = none := h4
    subst h4
    obtain rfl := Option.some.inj hr
    exact (face_nil w).mono fun e w' h2 => ⟨[.int .i64 0, .int .i64 0], [], h2.1, h2.2, List.nodup_nil, by simp, ⟨_, _, rfl, res_int _ _ _ _, _, [], rfl, res_int _ _ _ _, rfl, rfl⟩⟩
  · rw [c0] at h4
    obtain rfl : v0 = .iface 205 u0 := (List.cons.inj h4).1
    have h3 : x = some y := h3
    subst h3
    obtain rfl := Option.some.inj hr
    have h5 : cs' = [u0] := h5
    obtain ⟨_, h6⟩ := h6
    obtain ⟨_, b, o, cc, i1, i2, i3, i4, i5⟩ := h6.resolve_left fun h => by cases h.1
    rw [h5] at i1
    obtain rfl := (List.cons.inj i1).1
    obtain ⟨F1, F2, c1, c2, hF, rfl, ⟨_, j1⟩, F3, F4, c3, c4, hF', rfl, ⟨_, j2⟩, _, rfl⟩ := i4
    have j1 := (j1.resolve_left fun h => by cases h.1).2
    have j2 := (j2.resolve_left fun h => by cases h.1).2
    subst j1 j2
    refine (face_hit b o y.1 y.2.1 w hG (i5 0 _ rfl) (i5 1 _ rfl)).mono fun e w' h2 => ⟨[.int .i64 y.1, .int .i64 y.2.1], [], h2.1, h2.2, List.nodup_nil, by simp, ⟨_, _, rfl, res_int _ _ _ _, _, [], rfl, res_int _ _ _ _, rfl, rfl⟩⟩
end Go.Proofs.YtekgngedamnmaaaGreatDoor.L
