import Derived.RangeFuncNested
import Derived.RangeFuncBound
import Derived.RangeFuncCalls
import Derived.RangeFuncLeaves
import Derived.RangeFuncFrom
import Derived.Shelf.Abstract
import Derived.TacticsInMore
import Derived.LoopNIn
import Derived.LoopIn
import Derived.OwnWalkIn
import Derived.Lib.Hide
import Derived.Outline
import Derived.Deep.DeepMust
import Derived.Test.YtjnnmgjpnbfhlaaPOncex0
namespace Go.Proofs.Ytjnnmgjpnbfhlaa.POnce
open Go.RowKit Go.Shelf Go.Proofs.YtjnnmgjpnbfhlaaW.PrintWords Go.Proofs.YtjnnmgjpnbfhlaaW.PrintLast Go.Proofs.YtjnnmgjpnbfhlaaW.PrintMore
set_option linter.unusedVariables false
set_option linter.unusedSimpArgs false
attribute [local go_sem] Oper.semAt_some

/-- the numbers of the first k channels of which p is so -/
def nums (p : Nat → Bool) (k : Nat) : List Int := ((List.range k).filter p).map fun (i : Nat) => (i : Int) + 1
theorem nums_yes {p : Nat → Bool} {k : Nat} (h : p k = true) : nums p (k + 1) = nums p k ++ [(k : Int) + 1] := by simp [nums, List.range_succ, h]
theorem nums_no {p : Nat → Bool} {k : Nat} (h : p k = false) : nums p (k + 1) = nums p k := by simp [nums, List.range_succ, h]
theorem nums_length (p : Nat → Bool) (k : Nat) : (nums p k).length ≤ k := by
  unfold nums
  rw [List.length_map]
  have := List.length_filter_le p (List.range k)
  simpa using this
theorem nums_prefix (p : Nat → Bool) {k n : Nat} (h : k ≤ n) : nums p k <+: nums p n := by
  induction n with
  | zero => obtain rfl : k = 0 := by omega
            exact List.prefix_refl _
  | succ n ih =>
    rcases Nat.lt_or_ge k (n + 1) with hlt | hge
    · refine (ih (by omega)).trans ?_
      cases hp : p n
      · rw [nums_no hp]; exact List.prefix_refl _
      · rw [nums_yes hp]; exact List.prefix_append _ _
    · obtain rfl : k = n + 1 := by omega
      exact List.prefix_refl _

theorem cell_new_l (W : World) (v : Value) (t : TypeId) : (W.alloc (.cells #[v] t)).cell? ⟨W.heap.size, 0, none⟩ = some v ∧ (W.alloc (.cells #[v] t)).frozen? ⟨W.heap.size, 0, none⟩ = false := by
  refine ⟨by simp, by simp⟩

/-- what a call of the predicate answers, and what it leaves -/
def IsAt (g Bp n₀ len : Nat) (w0 : World) (L : List S24) (p : Nat → Bool) : Prop :=
  ∀ W', Below n₀ w0 W' → ∀ i, i < len → ∀ A2 c2, (Kd.int .i64).C W' A2 (rd_T24 L i).f2.length (rd_T24 L i).f2 → (rd_T24 L i).f2.length ≤ c2 →
    Calls Try.prog g #[.agg #[.int .i64 (rd_T24 L i).f0, .int .i64 (rd_T24 L i).f1, .slice A2 (rd_T24 L i).f2.length c2, .int .i64 (rd_T24 L i).f3, .int .i64 (rd_T24 L i).f4], .pointer (some ⟨Bp, 0, none⟩)] W' fun e w'' => e = .returned (.bool (p i)) ∧ Below W'.heap.size W' w''
set_option maxRecDepth 100000 in
set_option maxHeartbeats 4000000 in
theorem numbers43_in (l n₀ Bx Bi Bp len cap : Nat) (A : Option Addr) (L : List S24) (p : Nat → Bool) (hlen : len ≤ 1000000000000) (w0 : World) (hn₀ : n₀ = w0.heap.size)
    (hL : Kd.C k24 w0 A len L) (hIs : IsAt 43 Bp n₀ len w0 L p) (J Jx : List Int → World → Prop)
    (hY : ∀ pre x W, J pre W → pre.length < len → YieldAt Fence.wide 2 Try.prog l #[.int .i64 x] W fun e W' => (e = .returned (.bool true) ∧ J (pre ++ [x]) W' ∧ Below n₀ W W') ∨ (e = .returned (.bool false) ∧ Jx (pre ++ [x]) W'))
    (W : World) (hW : Below n₀ w0 W) (hBx : Bx < n₀) (hBi : Bi < n₀) (hx : w0.cell? ⟨Bx, 2, none⟩ = some (.slice A len cap)) (hi : w0.cell? ⟨Bi, 0, none⟩ = some (.func (.func 43) #[] #[.pointer (some ⟨Bp, 0, none⟩)]))
    (hJ : AbidesFrom W.heap.size J) (h0 : J [] W) :
    CallsIn Fence.wide 3 Try.prog 56 #[.func (.yield l) #[] #[], .pointer (some ⟨Bx, 0, none⟩), .pointer (some ⟨Bi, 0, none⟩)] W fun e W' => (∃ v, e = .returned v) ∧ ((∃ ys, ys = nums p len ∧ J ys W') ∨ (∃ pre, pre <+: nums p len ∧ Jx pre W')) := by
  have hx' := (hW.cell (p := ⟨Bx, 2, none⟩) hBx).trans hx
  have HIS := Lib.hid hIs
  clear hIs
  refine callsIn_of_wp Try.func56 rfl trivial ?_ rfl
  simp only [Try.ntmps56, List.size_toArray, List.length_cons, List.length_nil, Nat.reduceAdd, Nat.reduceSub, Array.replicate_succ, Array.replicate_zero, List.push_toArray, List.append_toArray, List.nil_append, List.cons_append]
  gi_wp2
  gi_loopw [9] (fun i wr => ∃ k : Nat, k ≤ len ∧ i = .int .i64 k ∧ J (nums p k) wr ∧ Below n₀ W wr) (fun i _ => len - (intOf i).toNat)
  case atStart => exact ⟨0, Nat.zero_le _, rfl, h0, Below.refl _ _⟩
  case round =>
    obtain ⟨k, hk, rfl, hJs, hnx⟩ := hrel
    by_cases hlt : k < len
    · have hB := hW.trans hnx
      have hC := Kd.C_below (w := w0) (w1 := wr) hL (hn₀ ▸ hB)
      obtain ⟨ad, A2, c2, rfl, g0, g1, g2, g3, g4, hl2, hc2⟩ := at_T24 hC (k : Int) (by omega) (by omega)
      rw [Int.toNat_natCast] at g0 g1 g2 g3 g4
      have hi' := (hB.cell (p := ⟨Bi, 0, none⟩) hBi).trans hi
      have hBi2 : Bi < wr.heap.size := Nat.lt_of_lt_of_le hBi (by rw [hn₀]; exact hB.size)
      obtain ⟨c, hcd⟩ : ∃ c : Obj, c = .cells #[.int .i64 (rd_T24 L k).f0, .int .i64 (rd_T24 L k).f1, .slice A2 (rd_T24 L k).f2.length c2, .int .i64 (rd_T24 L k).f3, .int .i64 (rd_T24 L k).f4] 24 := ⟨_, rfl⟩
      have hBc : Below wr.heap.size wr (wr.alloc c) := (Below.refl _ _).alloc (Nat.le_refl _) _
      have hB2 : Below n₀ w0 (wr.alloc c) := hB.trans (hBc.mono (by rw [hn₀]; exact hB.size))
      have hc3 := Kd.C_alloc hc2 c
      have hcall := HIS.out _ hB2 k hlt A2 c2 hc3 hl2
      have hnext : ∀ w3, Below (wr.alloc c).heap.size (wr.alloc c) w3 → J (nums p k) w3 ∧ Below n₀ W w3 := fun w3 hb3 => by
        have h3 : Below wr.heap.size wr w3 := hBc.trans (hb3.mono (by simp))
        exact ⟨hJ _ _ _ none hJs ⟨h3.os, h3.tape, h3.output, h3.size, fun i hi _ => h3.block i hi⟩ (fun r e => by cases e), hnx.trans (h3.mono (by rw [hn₀]; exact hB.size))⟩
      have HN := Lib.hid hnext
      have HCALL := Lib.hid hcall
      have HCD := Lib.hid hcd
      clear hnext hcall hc3 hcd
      cases hp : p k
      · have HP := Lib.hid hp
        rw [hp] at HCALL
        clear hp
        gi_wp2_with (refine ⟨trivial, ?_⟩; gi_at_call 43; go_must (rw [← HCD.out]; refine (callsIn_wide.2 (HCALL.out)).mono ?_; rintro e w3 ⟨rfl, hb3⟩; (obtain ⟨hJ3, hn3⟩ := HN.out _ hb3)))
        refine ⟨fun _ h => (by cases h), ?_⟩
        gi_wp2
        go_roundw
        case rel => exact ⟨k + 1, by omega, by go_num, by rw [nums_no HP.out]; exact hJ3, hn3⟩
        case measure => simp [intOf]; omega
      · have HP := Lib.hid hp
        rw [hp] at HCALL
        clear hp
        gi_wp2_with (refine ⟨trivial, ?_⟩; gi_at_call 43; go_must (rw [← HCD.out]; refine (callsIn_wide.2 (HCALL.out)).mono ?_; rintro e w3 ⟨rfl, hb3⟩; (obtain ⟨hJ3, hn3⟩ := HN.out _ hb3); (obtain ⟨fn, tmps, assign, body, hy, hR⟩ := hY _ ((k : Int) + 1) w3 hJ3 (by have := nums_length p k; omega))))
        refine hR.mono ?_
        rintro e W4 (⟨rfl, hJ4, hk4⟩ | ⟨rfl, hJx4⟩)
        · gi_wp2
          go_roundw
          case rel => exact ⟨k + 1, by omega, by go_num, by rw [nums_yes HP.out]; exact hJ4, hn3.trans hk4⟩
          case measure => simp [intOf]; omega
        · gi_wp2
          refine bodyPost_ret (results_none rfl _ _ _) rfl ?_
          exact ⟨⟨_, rfl⟩, .inr ⟨_, by rw [← nums_yes HP.out]; exact nums_prefix p (by omega), hJx4⟩⟩
    · obtain rfl : k = len := by omega
      gi_wp2
      go_end0
      exact ⟨⟨_, rfl⟩, .inl ⟨_, rfl, hJs⟩⟩

/-- the numbers' function value hands on just the numbers -/
theorem numbers43_stops (n₀ Bx Bi Bp len cap : Nat) (A : Option Addr) (L : List S24) (p : Nat → Bool) (hlen : len ≤ 1000000000000) (w0 w : World) (hn₀ : n₀ = w0.heap.size)
    (hL : Kd.C k24 w0 A len L) (hIs : IsAt 43 Bp n₀ len w0 L p) (hw : Below n₀ w0 w) (hBx : Bx < n₀) (hBi : Bi < n₀) (hx : w0.cell? ⟨Bx, 2, none⟩ = some (.slice A len cap)) (hi : w0.cell? ⟨Bi, 0, none⟩ = some (.func (.func 43) #[] #[.pointer (some ⟨Bp, 0, none⟩)])) :
    SeqStopsK Fence.wide 3 Try.prog 56 #[.pointer (some ⟨Bx, 0, none⟩), .pointer (some ⟨Bi, 0, none⟩)] (fun x : Int => #[Value.int .i64 x]) (Below n₀) (fun ys => ys = nums p len) (fun pre => pre <+: nums p len) len w := fun l J Jx W hW hJ hJx hY h0 =>
  numbers43_in l n₀ Bx Bi Bp len cap A L p hlen w0 hn₀ hL hIs J Jx hY W (hw.trans (hW.mono (by rw [hn₀]; exact hw.size))) hBx hBi hx hi hJ h0
set_option maxRecDepth 100000 in
set_option maxHeartbeats 4000000 in
/-- the first of the numbers -/
theorem first43 (Bx Bi Bp len cap : Nat) (A : Option Addr) (L : List S24) (p : Nat → Bool) (hlen : len ≤ 1000000000000) (w : World)
    (hL : Kd.C k24 w A len L) (hIs : IsAt 43 Bp w.heap.size len w L p) (hBx : Bx < w.heap.size) (hBi : Bi < w.heap.size) (hx : w.cell? ⟨Bx, 2, none⟩ = some (.slice A len cap)) (hi : w.cell? ⟨Bi, 0, none⟩ = some (.func (.func 43) #[] #[.pointer (some ⟨Bp, 0, none⟩)])) :
    Calls Try.prog 39 #[.func (.func 56) #[] #[.pointer (some ⟨Bx, 0, none⟩), .pointer (some ⟨Bi, 0, none⟩)]] w fun e W' => e = .returned (.int .i64 ((nums p len).headD 0)) ∧ Below w.heap.size w W' := by
  refine (callsIn_wide (n := 4)).1 ?_
  have HIS := Lib.hid hIs
  clear hIs
  refine callsIn_of_wp_marks Try.func39 rfl trivial ?_ rfl
  simp only [Try.ntmps39, List.size_toArray, List.length_cons, List.length_nil, Nat.reduceAdd, Nat.reduceSub, Array.replicate_succ, Array.replicate_zero, List.push_toArray, List.append_toArray, List.nil_append, List.cons_append]
  gi_wp2
  have c0 := cell_new_l w (.int .i64 0) 3
  have hB0 : Below w.heap.size w (w.alloc (.cells #[.int .i64 0] 3)) := (Below.refl _ w).alloc (Nat.le_refl _) _
  refine wpIn_rangeFunc_ownF rfl (by omega) (gf := 56) (lb := #[.pointer (some ⟨Bx, 0, none⟩), .pointer (some ⟨Bi, 0, none⟩)]) rfl trivial (enters_of Try.func56 (by kernel_rfl) rfl)
    (numbers43_stops w.heap.size Bx Bi Bp len cap A L p hlen w _ rfl hL HIS.out hB0 hBx hBi hx hi) belowK_t (belowK_b (by simp)) (Below.refl _ _) (fun _ => rfl)
    (fun pre W => (pre = [] ∧ W.cell? ⟨w.heap.size, 0, none⟩ = some (.int .i64 0) ∧ W.frozen? ⟨w.heap.size, 0, none⟩ = false) ∧ Below w.heap.size w W)
    (fun c pre W => (c = .ret ∧ ∃ x : Int, pre = [x] ∧ W.cell? ⟨w.heap.size, 0, none⟩ = some (.int .i64 x)) ∧ Below w.heap.size w W)
    (OwnFrom.and (Own.from (fun s A B row hs hg hr => ⟨hs.1, cell_kept hs.2.1 hg hr, (frozen_kept hs.2.1 hg hr).trans hs.2.2⟩) _) (ownFrom_below (Nat.le_refl _) (by simp)))
    (fun c => OwnFrom.and (Own.from (fun s A B row hs hg hr => ⟨hs.1, hs.2.imp fun x hh => ⟨hh.1, cell_kept hh.2 hg hr⟩⟩) _) (ownFrom_below (Nat.le_refl _) (by simp)))
    ⟨⟨rfl, c0.1, c0.2⟩, hB0⟩
    (fun x => { tmps := #[.func (.func 56) #[] #[.pointer (some ⟨Bx, 0, none⟩), .pointer (some ⟨Bi, 0, none⟩)], undef, .pointer (some ⟨w.heap.size, 0, none⟩), .int .i64 x, .func (.func 56) #[] #[.pointer (some ⟨Bx, 0, none⟩), .pointer (some ⟨Bi, 0, none⟩)], .int .i64 x, undef], defers := [] }) ?assign ?body ?done ?stop
  case assign =>
    intro l x W K hK
    gi_wp2
    exact hK
  case body =>
    rintro l pre x W ⟨⟨hp, hcr, hfr⟩, hB⟩ _
    gi_wp2
    exact ⟨KeepsOthers.setCell _ _ _, ⟨rfl, x, by rw [hp]; rfl, World.cell?_setCell_same' _ _ _ (by rw [hcr]; rfl)⟩, hB.setCell (p := ⟨w.heap.size, 0, none⟩) (Nat.le_refl _) _⟩
  case done =>
    rintro D ys W hD rfl ⟨⟨hne, hcr, hfr⟩, hB⟩ hK
    have HNE := Lib.hid hne
    clear hne
    gi_wp2
    have hK' := (KeepsOthers.setCell W ⟨w.heap.size, 0, none⟩ (.int .i64 0)).same D _ hK rfl
    refine ⟨by simp, .inl ⟨_, _, rfl, run_takeDeferred hK', ?_⟩⟩
    have hc5 := cell_kept (World.cell?_setCell_same' W ⟨w.heap.size, 0, none⟩ (.int .i64 0) (by rw [hcr]; rfl)) (grownBy_putObj' _ D (.deferred none)) (fun r e => by cases e; exact ⟨_, hK', rfl⟩)
    refine ⟨.int .i64 0, ?_, by rw [HNE.out]; rfl, (hB.setCell (p := ⟨w.heap.size, 0, none⟩) (Nat.le_refl _) _).trans (belowK_b (w := w) (Nat.le_refl _) _ D _ _ (by simp at hD; omega) hK' rfl rfl)⟩
    simp [results, Try.f39, go_sem, hc5]
  case stop =>
    rintro D c pre W hD hpre ⟨⟨rfl, x, rfl, hcr⟩, hB⟩ hK
    have HPR := Lib.hid hpre
    clear hpre
    gi_wp2
    refine ⟨by simp, .inl ⟨_, _, rfl, run_takeDeferred hK, ?_⟩⟩
    have hc5 := cell_kept hcr (grownBy_putObj' _ D (.deferred none)) (fun r e => by cases e; exact ⟨_, hK, rfl⟩)
    refine ⟨.int .i64 x, ?_, ?_, hB.trans (belowK_b (w := w) (Nat.le_refl _) W D _ _ (by simp at hD; omega) hK rfl rfl)⟩
    · simp [results, Try.f39, go_sem, hc5]
    · obtain ⟨t, ht⟩ := HPR.out
      rw [← ht]; rfl
set_option maxRecDepth 100000 in
set_option maxHeartbeats 4000000 in
theorem numbers41_in (l n₀ Bx Bi Bp len cap : Nat) (A : Option Addr) (L : List S24) (p : Nat → Bool) (hlen : len ≤ 1000000000000) (w0 : World) (hn₀ : n₀ = w0.heap.size)
    (hL : Kd.C k24 w0 A len L) (hIs : IsAt 41 Bp n₀ len w0 L p) (J Jx : List Int → World → Prop)
    (hY : ∀ pre x W, J pre W → pre.length < len → YieldAt Fence.wide 2 Try.prog l #[.int .i64 x] W fun e W' => (e = .returned (.bool true) ∧ J (pre ++ [x]) W' ∧ Below n₀ W W') ∨ (e = .returned (.bool false) ∧ Jx (pre ++ [x]) W'))
    (W : World) (hW : Below n₀ w0 W) (hBx : Bx < n₀) (hBi : Bi < n₀) (hx : w0.cell? ⟨Bx, 2, none⟩ = some (.slice A len cap)) (hi : w0.cell? ⟨Bi, 0, none⟩ = some (.func (.func 41) #[] #[.pointer (some ⟨Bp, 0, none⟩)]))
    (hJ : AbidesFrom W.heap.size J) (h0 : J [] W) :
    CallsIn Fence.wide 3 Try.prog 56 #[.func (.yield l) #[] #[], .pointer (some ⟨Bx, 0, none⟩), .pointer (some ⟨Bi, 0, none⟩)] W fun e W' => (∃ v, e = .returned v) ∧ ((∃ ys, ys = nums p len ∧ J ys W') ∨ (∃ pre, pre <+: nums p len ∧ Jx pre W')) := by
  have hx' := (hW.cell (p := ⟨Bx, 2, none⟩) hBx).trans hx
  have HIS := Lib.hid hIs
  clear hIs
  refine callsIn_of_wp Try.func56 rfl trivial ?_ rfl
  simp only [Try.ntmps56, List.size_toArray, List.length_cons, List.length_nil, Nat.reduceAdd, Nat.reduceSub, Array.replicate_succ, Array.replicate_zero, List.push_toArray, List.append_toArray, List.nil_append, List.cons_append]
  gi_wp2
  gi_loopw [9] (fun i wr => ∃ k : Nat, k ≤ len ∧ i = .int .i64 k ∧ J (nums p k) wr ∧ Below n₀ W wr) (fun i _ => len - (intOf i).toNat)
  case atStart => exact ⟨0, Nat.zero_le _, rfl, h0, Below.refl _ _⟩
  case round =>
    obtain ⟨k, hk, rfl, hJs, hnx⟩ := hrel
    by_cases hlt : k < len
    · have hB := hW.trans hnx
      have hC := Kd.C_below (w := w0) (w1 := wr) hL (hn₀ ▸ hB)
      obtain ⟨ad, A2, c2, rfl, g0, g1, g2, g3, g4, hl2, hc2⟩ := at_T24 hC (k : Int) (by omega) (by omega)
      rw [Int.toNat_natCast] at g0 g1 g2 g3 g4
      have hi' := (hB.cell (p := ⟨Bi, 0, none⟩) hBi).trans hi
      have hBi2 : Bi < wr.heap.size := Nat.lt_of_lt_of_le hBi (by rw [hn₀]; exact hB.size)
      obtain ⟨c, hcd⟩ : ∃ c : Obj, c = .cells #[.int .i64 (rd_T24 L k).f0, .int .i64 (rd_T24 L k).f1, .slice A2 (rd_T24 L k).f2.length c2, .int .i64 (rd_T24 L k).f3, .int .i64 (rd_T24 L k).f4] 24 := ⟨_, rfl⟩
      have hBc : Below wr.heap.size wr (wr.alloc c) := (Below.refl _ _).alloc (Nat.le_refl _) _
      have hB2 : Below n₀ w0 (wr.alloc c) := hB.trans (hBc.mono (by rw [hn₀]; exact hB.size))
      have hc3 := Kd.C_alloc hc2 c
      have hcall := HIS.out _ hB2 k hlt A2 c2 hc3 hl2
      have hnext : ∀ w3, Below (wr.alloc c).heap.size (wr.alloc c) w3 → J (nums p k) w3 ∧ Below n₀ W w3 := fun w3 hb3 => by
        have h3 : Below wr.heap.size wr w3 := hBc.trans (hb3.mono (by simp))
        exact ⟨hJ _ _ _ none hJs ⟨h3.os, h3.tape, h3.output, h3.size, fun i hi _ => h3.block i hi⟩ (fun r e => by cases e), hnx.trans (h3.mono (by rw [hn₀]; exact hB.size))⟩
      have HN := Lib.hid hnext
      have HCALL := Lib.hid hcall
      have HCD := Lib.hid hcd
      clear hnext hcall hc3 hcd
      cases hp : p k
      · have HP := Lib.hid hp
        rw [hp] at HCALL
        clear hp
        gi_wp2_with (refine ⟨trivial, ?_⟩; gi_at_call 41; go_must (rw [← HCD.out]; refine (callsIn_wide.2 (HCALL.out)).mono ?_; rintro e w3 ⟨rfl, hb3⟩; (obtain ⟨hJ3, hn3⟩ := HN.out _ hb3)))
        refine ⟨fun _ h => (by cases h), ?_⟩
        gi_wp2
        go_roundw
        case rel => exact ⟨k + 1, by omega, by go_num, by rw [nums_no HP.out]; exact hJ3, hn3⟩
        case measure => simp [intOf]; omega
      · have HP := Lib.hid hp
        rw [hp] at HCALL
        clear hp
        gi_wp2_with (refine ⟨trivial, ?_⟩; gi_at_call 41; go_must (rw [← HCD.out]; refine (callsIn_wide.2 (HCALL.out)).mono ?_; rintro e w3 ⟨rfl, hb3⟩; (obtain ⟨hJ3, hn3⟩ := HN.out _ hb3); (obtain ⟨fn, tmps, assign, body, hy, hR⟩ := hY _ ((k : Int) + 1) w3 hJ3 (by have := nums_length p k; omega))))
        refine hR.mono ?_
        rintro e W4 (⟨rfl, hJ4, hk4⟩ | ⟨rfl, hJx4⟩)
        · gi_wp2
          go_roundw
          case rel => exact ⟨k + 1, by omega, by go_num, by rw [nums_yes HP.out]; exact hJ4, hn3.trans hk4⟩
          case measure => simp [intOf]; omega
        · gi_wp2
          refine bodyPost_ret (results_none rfl _ _ _) rfl ?_
          exact ⟨⟨_, rfl⟩, .inr ⟨_, by rw [← nums_yes HP.out]; exact nums_prefix p (by omega), hJx4⟩⟩
    · obtain rfl : k = len := by omega
      gi_wp2
      go_end0
      exact ⟨⟨_, rfl⟩, .inl ⟨_, rfl, hJs⟩⟩

/-- the numbers' function value hands on just the numbers -/
theorem numbers41_stops (n₀ Bx Bi Bp len cap : Nat) (A : Option Addr) (L : List S24) (p : Nat → Bool) (hlen : len ≤ 1000000000000) (w0 w : World) (hn₀ : n₀ = w0.heap.size)
    (hL : Kd.C k24 w0 A len L) (hIs : IsAt 41 Bp n₀ len w0 L p) (hw : Below n₀ w0 w) (hBx : Bx < n₀) (hBi : Bi < n₀) (hx : w0.cell? ⟨Bx, 2, none⟩ = some (.slice A len cap)) (hi : w0.cell? ⟨Bi, 0, none⟩ = some (.func (.func 41) #[] #[.pointer (some ⟨Bp, 0, none⟩)])) :
    SeqStopsK Fence.wide 3 Try.prog 56 #[.pointer (some ⟨Bx, 0, none⟩), .pointer (some ⟨Bi, 0, none⟩)] (fun x : Int => #[Value.int .i64 x]) (Below n₀) (fun ys => ys = nums p len) (fun pre => pre <+: nums p len) len w := fun l J Jx W hW hJ hJx hY h0 =>
  numbers41_in l n₀ Bx Bi Bp len cap A L p hlen w0 hn₀ hL hIs J Jx hY W (hw.trans (hW.mono (by rw [hn₀]; exact hw.size))) hBx hBi hx hi hJ h0
set_option maxRecDepth 100000 in
set_option maxHeartbeats 4000000 in
/-- the first of the numbers -/
theorem first41 (Bx Bi Bp len cap : Nat) (A : Option Addr) (L : List S24) (p : Nat → Bool) (hlen : len ≤ 1000000000000) (w : World)
    (hL : Kd.C k24 w A len L) (hIs : IsAt 41 Bp w.heap.size len w L p) (hBx : Bx < w.heap.size) (hBi : Bi < w.heap.size) (hx : w.cell? ⟨Bx, 2, none⟩ = some (.slice A len cap)) (hi : w.cell? ⟨Bi, 0, none⟩ = some (.func (.func 41) #[] #[.pointer (some ⟨Bp, 0, none⟩)])) :
    Calls Try.prog 39 #[.func (.func 56) #[] #[.pointer (some ⟨Bx, 0, none⟩), .pointer (some ⟨Bi, 0, none⟩)]] w fun e W' => e = .returned (.int .i64 ((nums p len).headD 0)) ∧ Below w.heap.size w W' := by
  refine (callsIn_wide (n := 4)).1 ?_
  have HIS := Lib.hid hIs
  clear hIs
  refine callsIn_of_wp_marks Try.func39 rfl trivial ?_ rfl
  simp only [Try.ntmps39, List.size_toArray, List.length_cons, List.length_nil, Nat.reduceAdd, Nat.reduceSub, Array.replicate_succ, Array.replicate_zero, List.push_toArray, List.append_toArray, List.nil_append, List.cons_append]
  gi_wp2
  have c0 := cell_new_l w (.int .i64 0) 3
  have hB0 : Below w.heap.size w (w.alloc (.cells #[.int .i64 0] 3)) := (Below.refl _ w).alloc (Nat.le_refl _) _
  refine wpIn_rangeFunc_ownF rfl (by omega) (gf := 56) (lb := #[.pointer (some ⟨Bx, 0, none⟩), .pointer (some ⟨Bi, 0, none⟩)]) rfl trivial (enters_of Try.func56 (by kernel_rfl) rfl)
    (numbers41_stops w.heap.size Bx Bi Bp len cap A L p hlen w _ rfl hL HIS.out hB0 hBx hBi hx hi) belowK_t (belowK_b (by simp)) (Below.refl _ _) (fun _ => rfl)
    (fun pre W => (pre = [] ∧ W.cell? ⟨w.heap.size, 0, none⟩ = some (.int .i64 0) ∧ W.frozen? ⟨w.heap.size, 0, none⟩ = false) ∧ Below w.heap.size w W)
    (fun c pre W => (c = .ret ∧ ∃ x : Int, pre = [x] ∧ W.cell? ⟨w.heap.size, 0, none⟩ = some (.int .i64 x)) ∧ Below w.heap.size w W)
    (OwnFrom.and (Own.from (fun s A B row hs hg hr => ⟨hs.1, cell_kept hs.2.1 hg hr, (frozen_kept hs.2.1 hg hr).trans hs.2.2⟩) _) (ownFrom_below (Nat.le_refl _) (by simp)))
    (fun c => OwnFrom.and (Own.from (fun s A B row hs hg hr => ⟨hs.1, hs.2.imp fun x hh => ⟨hh.1, cell_kept hh.2 hg hr⟩⟩) _) (ownFrom_below (Nat.le_refl _) (by simp)))
    ⟨⟨rfl, c0.1, c0.2⟩, hB0⟩
    (fun x => { tmps := #[.func (.func 56) #[] #[.pointer (some ⟨Bx, 0, none⟩), .pointer (some ⟨Bi, 0, none⟩)], undef, .pointer (some ⟨w.heap.size, 0, none⟩), .int .i64 x, .func (.func 56) #[] #[.pointer (some ⟨Bx, 0, none⟩), .pointer (some ⟨Bi, 0, none⟩)], .int .i64 x, undef], defers := [] }) ?assign ?body ?done ?stop
  case assign =>
    intro l x W K hK
    gi_wp2
    exact hK
  case body =>
    rintro l pre x W ⟨⟨hp, hcr, hfr⟩, hB⟩ _
    gi_wp2
    exact ⟨KeepsOthers.setCell _ _ _, ⟨rfl, x, by rw [hp]; rfl, World.cell?_setCell_same' _ _ _ (by rw [hcr]; rfl)⟩, hB.setCell (p := ⟨w.heap.size, 0, none⟩) (Nat.le_refl _) _⟩
  case done =>
    rintro D ys W hD rfl ⟨⟨hne, hcr, hfr⟩, hB⟩ hK
    have HNE := Lib.hid hne
    clear hne
    gi_wp2
    have hK' := (KeepsOthers.setCell W ⟨w.heap.size, 0, none⟩ (.int .i64 0)).same D _ hK rfl
    refine ⟨by simp, .inl ⟨_, _, rfl, run_takeDeferred hK', ?_⟩⟩
    have hc5 := cell_kept (World.cell?_setCell_same' W ⟨w.heap.size, 0, none⟩ (.int .i64 0) (by rw [hcr]; rfl)) (grownBy_putObj' _ D (.deferred none)) (fun r e => by cases e; exact ⟨_, hK', rfl⟩)
    refine ⟨.int .i64 0, ?_, by rw [HNE.out]; rfl, (hB.setCell (p := ⟨w.heap.size, 0, none⟩) (Nat.le_refl _) _).trans (belowK_b (w := w) (Nat.le_refl _) _ D _ _ (by simp at hD; omega) hK' rfl rfl)⟩
    simp [results, Try.f39, go_sem, hc5]
  case stop =>
    rintro D c pre W hD hpre ⟨⟨rfl, x, rfl, hcr⟩, hB⟩ hK
    have HPR := Lib.hid hpre
    clear hpre
    gi_wp2
    refine ⟨by simp, .inl ⟨_, _, rfl, run_takeDeferred hK, ?_⟩⟩
    have hc5 := cell_kept hcr (grownBy_putObj' _ D (.deferred none)) (fun r e => by cases e; exact ⟨_, hK, rfl⟩)
    refine ⟨.int .i64 x, ?_, ?_, hB.trans (belowK_b (w := w) (Nat.le_refl _) W D _ _ (by simp at hD; omega) hK rfl rfl)⟩
    · simp [results, Try.f39, go_sem, hc5]
    · obtain ⟨t, ht⟩ := HPR.out
      rw [← ht]; rfl

end Go.Proofs.Ytjnnmgjpnbfhlaa.POnce
