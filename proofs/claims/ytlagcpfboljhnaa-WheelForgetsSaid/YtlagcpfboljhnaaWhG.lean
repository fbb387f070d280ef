import Derived.Test.YtlagcpfboljhnaaWhD
import Derived.Test.YtlagcpfboljhnaaLiftD
import Derived.Test.YtlagcpfboljhnaaSf
import Derived.Lib.AppendIntMem
import Derived.Lib.SlKeysI
namespace Go.Proofs.Ytlagcpfboljhnaa.L
open Go Go.Lift Go.RowKit
set_option linter.unusedVariables false
set_option linter.unusedSimpArgs false
def GW (_ : World) : Prop := True
/-! ### slices.Sort -/
theorem ok25 : FnOk Try.prog GW 25 ⟨s25, d25⟩ := by
  intro k (x : List Int × Unit) r hr w S vs F hgl hargs hn hS
  obtain ⟨v0, vs0, F1, F2, rfl, rfl, h0, rfl, rfl⟩ := hargs
  have hr : d25 k x = some r := hr
  unfold d25 at hr
  split at hr <;> try (cases hr; done)
  rename_i hb
  obtain rfl := Option.some.inj hr
  rw [List.append_nil] at *
  obtain ⟨hF, hown⟩ := row_of_rz (k := .int .i64) rfl h0
  have hl : (x.1.mergeSort fun x y => decide (x ≤ y)).length = x.1.length := List.length_mergeSort _
  rcases hown.2 with ⟨rfl, hx⟩ | ⟨g, cap, cur, rfl, _, hg, hc1, hc2, hc3, ht⟩
  · rw [hF]
    refine (Try.slices_Sort_int_none none 0 w).mono fun e w' ⟨he, hw⟩ => ?_
    subst hw
    refine ⟨[], [], [], he, ⟨rfl, rfl, rfl, Nat.le_refl _, fun _ _ _ => rfl⟩, by simp, by simp, ⟨rfl, rfl⟩, ⟨_, _, [], [], rfl, rfl, ?_, rfl⟩⟩
    have : x.1 = [] := List.length_eq_zero_iff.1 hx
    exact ⟨_, rfl, .inl ⟨rfl, by show List.mergeSort x.1 _ = []; rw [this]; exact List.mergeSort_nil, rfl⟩⟩
  · have hlt : g < w.heap.size := (Array.getElem?_eq_some_iff.1 hg).1
    have hH := holds_of_block_i (w := w) (g := g) hg (ss := x.1) (by rw [Nat.mul_one] at ht; exact ht)
    rw [hF]
    refine (Try.slices_Sort_int g 0 cap x.1 w hH hlt hb).mono fun e w' ⟨he, n, os, hw⟩ => ?_
    have hrow := ownsRow_sorted_i (w := w) (base := 0) (g := g) (cap := cap) (n := n) (os := os) hl (Nat.zero_le _) hg hc1 hc2 hc3
    have hgr := grownBy_sorted_i (w := w) (g := g) (n := n) (os := os) (x.1.mergeSort fun x y => decide (x ≤ y)).toArray
    subst hw
    refine ⟨[], [], [g], he, grown_fr hgr (by simp [Value.ownBlock]), by simp, by simp [Value.ownBlock], ⟨rfl, rfl⟩, ⟨_, _, [g], [], rfl, rfl, ?_, rfl⟩⟩
    have hrow : World.ownsRow (Go.Sort.grow (Go.Sort.putRow encZ (Go.Sort.ahead w n) g 0 (x.1.mergeSort fun x y => decide (x ≤ y)).toArray) os) 0 3 1 (.slice (some ⟨g, 0, none⟩) x.1.length cap) (x.1.mergeSort fun x y => decide (x ≤ y)).length ((x.1.mergeSort fun x y => decide (x ≤ y)).map (enc1 (.int .i64))) := by
      rw [hl]; exact hrow
    exact rz_of_row (k := .int .i64) rfl hrow
/-! ### slices.DeleteFunc -/
set_option maxRecDepth 100000 in
theorem pred29 (x id : Int) (b o : Nat) (w : World) (hc : w.cell? ⟨b, o, none⟩ = some (.int .i64 id)) :
    Calls Try.prog 29 #[.int .i64 x, .pointer (some ⟨b, o, none⟩)] w fun e w' => e = .returned (.bool (x == id)) ∧ w' = w := by
  go_enter Try.func29, Try.ntmps29
  go_wp2
  go_ret
  exact ⟨rfl, rfl⟩
theorem enters29 : ∀ args w, (callFunc 29 args).run Try.prog w = .ok (.enter 29 args) w := enters_of Try.func29 (by kernel_rfl) rfl
theorem zero3 (w : World) : (zeroValue 3).run Try.prog w = .ok (.int .i64 0) w := by kernel_rfl
theorem ok28 : FnOk Try.prog GW 28 ⟨s28, d28⟩ := by
  intro k (x : List Int × ((Int × Unit) × Unit)) r hr w S vs F hgl hargs hn hS
  obtain ⟨v0, vs0, F1, F2, rfl, rfl, h0, v1, vs1, rfl, h1, rfl, rfl⟩ := hargs
  have hr : d28 k x = some r := hr
  unfold d28 at hr
  split at hr <;> try (cases hr; done)
  rename_i hne
  obtain rfl := Option.some.inj hr
  rw [List.append_nil] at *
  obtain ⟨hF, hown⟩ := row_of_rz (k := .int .i64) rfl h0
  obtain ⟨cs, hs, hz⟩ := h1
  have hs : cs = [v1] := hs
  subst hs
  obtain ⟨_, vs, cc, hv, hsh, hz⟩ := hz.2.resolve_left fun h => by cases h.1
  obtain ⟨vp, vs', c1, c2, rfl, rfl, hl1, hsp, rfl, rfl⟩ := hsh
  have hsp : c1 = [vp] := hsp
  subst hsp
  obtain ⟨G1, G2, e1, e2, hG, he, hzp, hzu⟩ := hz
  obtain ⟨hG1, hzp⟩ := hzp
  obtain ⟨_, b, o, c3, hvp, hSb, hb, hzi, hcell⟩ := hzp.resolve_left fun h => by cases h.1
  have he1 : e1 = [vp] := by
    rw [hvp] at he ⊢
    exact (List.append_inj he (by rfl)).1.symm
  rw [he1] at hvp
  obtain rfl := (List.cons.inj hvp).1
  obtain rfl := (List.cons.inj hv).1
  have hc3 : c3 = [.int .i64 x.2.1.1] := (hzi.2.resolve_left fun h => by cases h.1).2
  rw [hc3] at hcell
  have hc0 : w.cell? ⟨b, o, none⟩ = some (.int .i64 x.2.1.1) := hcell 0 _ rfl
  rcases hown.2 with ⟨rfl, hx⟩ | ⟨g, cap, cur, rfl, _, hg, hc1, hc2, hc3, ht⟩
  · have : x.1 = [] := List.length_eq_zero_iff.1 hx
    rw [this] at hne; exact absurd rfl hne
  · have hlt : g < w.heap.size := (Array.getElem?_eq_some_iff.1 hg).1
    have hgb : b ≠ g := fun e => hS g (by rw [hF]; simp [Value.ownBlock]) (e ▸ hSb)
    have hH := holds_of_block_i (w := w) (g := g) hg (ss := x.1) (by rw [Nat.mul_one] at ht; exact ht)
    have hle : (x.1.filter fun y => !(y == x.2.1.1)).length ≤ x.1.length := List.length_filter_le _ _
    have hp : PredAt Try.prog 29 #[.pointer (some ⟨b, o, none⟩)] (Value.int .i64) (fun y => y == x.2.1.1) w := fun W y hB =>
      (pred29 y x.2.1.1 b o W ((hB.cell (p := ⟨b, o, none⟩) hb).trans hc0)).mono fun e w' ⟨h1, h2⟩ => ⟨h1, 0, h2⟩
    have hpo : PredOver Try.prog 29 #[.pointer (some ⟨b, o, none⟩)] (Value.int .i64) (fun y => y == x.2.1.1) g 0 x.1.toArray.size w := fun n os dk y hs =>
      (pred29 y x.2.1.1 b o _ (by
        unfold sortWorld
        have : (Go.Sort.grow (Go.Sort.putRow (Value.int .i64) (Go.Sort.ahead w n) g 0 dk) os).heap[b]? = w.heap[b]? := by
          rw [Go.Sort.heap_grow_old _ _ (by simpa using hb)]
          have : g ≠ b := fun e => hgb e.symm
          simp [Go.Sort.putRow, Go.Sort.mapBlock, Go.Sort.ahead, Array.getElem?_modify, this]
        unfold World.cell? at hc0 ⊢
        rw [this]; exact hc0)).mono fun e w' ⟨h1, h2⟩ => ⟨h1, 0, h2⟩
    rw [hF]
    have hcall := Try.slices_DeleteFunc (Value.int .i64) (by intro z; rfl) (fun y => y == x.2.1.1) 29 #[.pointer (some ⟨b, o, none⟩)] enters29 0 zero3 g 0 cap x.1.toArray w hp hpo hH (by unfold maxLen at hc2; simp; omega) (by simpa using hc1)
    simp only [List.size_toArray] at hcall
    refine hcall.mono fun e w' ⟨he, q, hw⟩ => ?_
    have hrow := Lib.ownsRow_putRow (enc := enc1 (.int .i64)) (q := q) hown (ys := (x.1.filter fun y => !(y == x.2.1.1)) ++ List.replicate (x.1.length - (x.1.filter fun y => !(y == x.2.1.1)).length) 0) (by simp; omega) hle
    have hgr : w.grownBy (Go.Sort.putRow (Value.int .i64) (Go.Sort.ahead w q) g 0 ((x.1.filter fun y => !(y == x.2.1.1)) ++ List.replicate (x.1.length - (x.1.filter fun y => !(y == x.2.1.1)).length) 0).toArray) (some g) := by
      have := grownBy_sorted_i (w := w) (g := g) (n := q) (os := #[]) ((x.1.filter fun y => !(y == x.2.1.1)) ++ List.replicate (x.1.length - (x.1.filter fun y => !(y == x.2.1.1)).length) 0).toArray
      simpa using this
    subst hw
    rw [List.take_left] at hrow
    refine ⟨[.slice (some ⟨g, 0, none⟩) (x.1.filter fun y => !(y == x.2.1.1)).length cap], [g], [], he, grown_fr hgr (by simp [Value.ownBlock]), by simp, by simp [Value.ownBlock], ⟨_, _, [g], [], rfl, rfl, rz_of_row (k := .int .i64) rfl hrow, rfl, rfl⟩, ⟨_, _, rfl, _, _, rfl, rfl⟩⟩
end Go.Proofs.Ytlagcpfboljhnaa.L
