import Derived.Test.YtjnnmgjpnbfhlaaGreatDoorCeG
import Derived.RangeFuncBox
import Derived.RangeFuncLeaves
import Derived.RangeFuncWrites
import Derived.Shelf.Abstract
import Derived.WalkKit
import Derived.OwnWalkIn
import Derived.TacticsInMore
import Derived.LoopNIn
import Derived.LoopIn
namespace Go.Proofs.YtjnnmgjpnbfhlaaGreatDoor.L
open Go Go.RowKit
set_option linter.unusedVariables false
set_option linter.unusedSimpArgs false

/-- What has come when k rounds are over. -/
def nums (p : Nat → Bool) (k : Nat) : List Int := List.map (fun (j : Nat) => ((j : Int) + 1)) ((List.range k).filter p)
theorem nums_succ (p : Nat → Bool) (k : Nat) : nums p (k + 1) = nums p k ++ (if p k then [(k : Int) + 1] else []) := by
  unfold nums
  rw [List.range_succ, List.filter_append, List.map_append]
  cases h : p k <;> simp [h]
theorem nums_len (p : Nat → Bool) (k : Nat) : (nums p k).length ≤ k := by
  unfold nums
  rw [List.length_map]
  have := List.length_filter_le p (List.range k)
  rwa [List.length_range] at this
/-- What an iterator that stops has told: the last one is so. -/
def stopped (p : Nat → Bool) (len : Nat) (pre : List Int) : Prop := ∃ k, k < len ∧ p k = true ∧ pre = nums p (k + 1)

set_option maxRecDepth 100000 in
set_option maxHeartbeats 2000000 in
theorem it35 (n : Nat) (hn : 1 ≤ n) (l xb ib g n₀ b o len cap : Nat) (lb : Array Value) (z0 z1 z3 z4 : Nat → Int) (A : Nat → Option Addr) (L C : Nat → Nat) (p : Nat → Bool) (hlen : len < 4611686018427387904) (hx : xb < n₀) (hi : ib < n₀) (hb : b < n₀) (J Jx : List Int → World → Prop)
    (W : World) (hJ : AbidesFrom W.heap.size J)
    (hY : ∀ pre x W, J pre W → pre.length < len → YieldAt Fence.wide (n - 1) Tryz.prog l #[.int .i64 x] W fun e W' =>
      (e = .returned (.bool true) ∧ J (pre ++ [x]) W' ∧ Below n₀ W W') ∨ (e = .returned (.bool false) ∧ Jx (pre ++ [x]) W'))
    (hn0 : n₀ ≤ W.heap.size)
    (hbx : W.cell? ⟨xb, 2, none⟩ = some (.slice (some ⟨b, o, none⟩) len cap)) (hbi : W.cell? ⟨ib, 0, none⟩ = some (.func (.func g) #[] lb))
    (hc : ∀ j, j < len → W.cell? ⟨b, o + j * 5, none⟩ = some (.int .i64 (z0 j)) ∧ W.cell? ⟨b, o + j * 5 + 1, none⟩ = some (.int .i64 (z1 j)) ∧ W.cell? ⟨b, o + j * 5 + 2, none⟩ = some (.slice (A j) (L j) (C j)) ∧ W.cell? ⟨b, o + j * 5 + 3, none⟩ = some (.int .i64 (z3 j)) ∧ W.cell? ⟨b, o + j * 5 + 4, none⟩ = some (.int .i64 (z4 j)))
    (he : ∀ args w, (callFunc g args).run Tryz.prog w = .ok (.enter g args) w)
    (hp : ∀ j, j < len → ∀ W', Below n₀ W W' → Calls Tryz.prog g (#[.agg #[.int .i64 (z0 j), .int .i64 (z1 j), .slice (A j) (L j) (C j), .int .i64 (z3 j), .int .i64 (z4 j)]] ++ lb) W' fun e W'' => e = .returned (.bool (p j)) ∧ Below W'.heap.size W' W'')
    (h0 : J [] W) :
    CallsIn Fence.wide n Tryz.prog 35 #[.func (.yield l) #[] #[], .pointer (some ⟨xb, 0, none⟩), .pointer (some ⟨ib, 0, none⟩)] W fun e W' => (∃ v, e = .returned v) ∧
      (J (nums p len) W' ∨ ∃ pre, stopped p len pre ∧ Jx pre W') := by
  refine callsIn_of_wp Tryz.func35 rfl trivial ?_ rfl
  simp only [Tryz.ntmps35, List.size_toArray, List.length_cons, List.length_nil, Nat.reduceAdd, Nat.reduceSub, Array.replicate_succ, Array.replicate_zero, List.push_toArray, List.append_toArray, List.nil_append, List.cons_append]
  gi_wp2
  gi_loopw [9] (fun i wr => ∃ k : Nat, k ≤ len ∧ i = .int .i64 k ∧ J (nums p k) wr ∧ Below n₀ W wr)
    (fun i _ => len - (intOf i).toNat)
  case atStart => exact ⟨0, Nat.zero_le _, rfl, by exact h0, Below.refl _ _⟩
  case round =>
    obtain ⟨k, hk, rfl, hJs, hnx⟩ := hrel
    by_cases hlt : k < len
    · have hcx : wr.cell? ⟨b, o + k * 5, none⟩ = some (.int .i64 (z0 k)) ∧ wr.cell? ⟨b, o + k * 5 + 1, none⟩ = some (.int .i64 (z1 k)) ∧ wr.cell? ⟨b, o + k * 5 + 2, none⟩ = some (.slice (A k) (L k) (C k)) ∧ wr.cell? ⟨b, o + k * 5 + 3, none⟩ = some (.int .i64 (z3 k)) ∧ wr.cell? ⟨b, o + k * 5 + 4, none⟩ = some (.int .i64 (z4 k)) := by
        obtain ⟨e0, e1, e2, e3, e4⟩ := hc k hlt
        exact ⟨(hnx.cell (p := ⟨b, _, none⟩) hb).trans e0, (hnx.cell (p := ⟨b, _, none⟩) hb).trans e1, (hnx.cell (p := ⟨b, _, none⟩) hb).trans e2, (hnx.cell (p := ⟨b, _, none⟩) hb).trans e3, (hnx.cell (p := ⟨b, _, none⟩) hb).trans e4⟩
      obtain ⟨c0, c1, c2, c3, c4⟩ := hcx
      have hbi2 : wr.cell? ⟨ib, 0, none⟩ = some (.func (.func g) #[] lb) := (hnx.cell (p := ⟨ib, 0, none⟩) hi).trans hbi
      have hsz := hnx.size
      have hi2 : ib < wr.heap.size := by omega
      gi_wp2
      have hBw : Below wr.heap.size wr (wr.alloc (.cells #[.int .i64 (z0 k), .int .i64 (z1 k), .slice (A k) (L k) (C k), .int .i64 (z3 k), .int .i64 (z4 k)] 39)) := (Below.refl _ wr).alloc (Nat.le_refl _) _
      refine ⟨trivial, (callsIn_wide.2 (hp k hlt _ (hnx.trans (hBw.mono (by omega))))).mono ?_⟩
      rintro e W2 ⟨rfl, hB2⟩
      rw [World.size_alloc] at hB2
      have hB3 : Below wr.heap.size wr W2 := hBw.trans (hB2.mono (by omega))
      have hJ2 : J (nums p k) W2 := hJ _ wr W2 none hJs ⟨hB3.os, hB3.tape, hB3.output, hB3.size, fun q hq _ => hB3.block q hq⟩ (fun r e => by cases e)
      have hnx2 : Below n₀ W W2 := hnx.trans (hB3.mono (by omega))
      cases hpk : p k with
      | false =>
        gi_wp2
        refine ⟨(fun f hf => by cases hf), ?_⟩
        gi_wp2
        go_roundw
        case rel => exact ⟨k + 1, by omega, by simp, by rw [nums_succ, hpk]; simpa using hJ2, hnx2⟩
        case measure => simp [intOf]; omega
      | true =>
        obtain ⟨fn, tmps, assign, body, hy, hR⟩ := hY _ ((k : Int) + 1) W2 hJ2 (Nat.lt_of_le_of_lt (nums_len p k) hlt)
        gi_wp2
        refine hR.mono ?_
        rintro e W3 (⟨rfl, hJ3, hk3⟩ | ⟨rfl, hJx3⟩)
        · gi_wp2
          go_roundw
          case rel => exact ⟨k + 1, by omega, by simp, by rw [nums_succ, hpk]; exact hJ3, hnx2.trans hk3⟩
          case measure => simp [intOf]; omega
        · gi_wp2
          refine bodyPost_ret (results_none rfl _ _ _) rfl ?_
          exact ⟨⟨_, rfl⟩, .inr ⟨_, ⟨k, hlt, hpk, by rw [nums_succ, hpk]; rfl⟩, hJx3⟩⟩
    · obtain rfl : k = len := by omega
      gi_wp2
      go_end0
      exact ⟨⟨_, rfl⟩, .inl hJs⟩
end Go.Proofs.YtjnnmgjpnbfhlaaGreatDoor.L
