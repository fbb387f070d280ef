import Derived.Test.YtcbhkeinmdobhaaDoorTab
import Derived.Test.YtcbhkeinmdobhaaDoorMa
import Derived.Laws.Rows
namespace Go.Proofs.YtcbhkeinmdobhaaDoor
open Go.ChangeShapes Go.WideShapes Go.ChangeAt Go.RowKit
set_option linter.unusedVariables false
set_option linter.unusedSimpArgs false

/-- the table's block, whole -/
def tabCells : Array Value := ((List.range' 0 28).flatMap fun i => [Value.string (nameB i), Value.string (shapeB i)]).toArray
def TabBlk (w : World) : Prop := ∃ t fr, w.heap[0]? = some (.cells tabCells t fr)
theorem tabBlk_on {w w' : World} (hT : TabBlk w) (hb : Below w.heap.size w w') : TabBlk w' := by
  obtain ⟨t, fr, h⟩ := hT
  refine ⟨t, fr, ?_⟩
  rw [hb.block 0 (Array.getElem?_eq_some_iff.1 h).1]
  exact h
/-- the longest of the first k names -/
def longest (k : Nat) : Nat := ((List.range k).map fun i => (nameB i).size).foldl max 0
theorem longest_succ (k : Nat) : longest (k + 1) = max (longest k) (nameB k).size := by simp [longest, List.range_succ]
theorem longest_all : longest 28 = 4 := by kernel_rfl
theorem tab_cell (k : Nat) (h : k < 28) : tabCells[k * 2]? = some (.string (nameB k)) ∧ tabCells[k * 2 + 1]? = some (.string (shapeB k)) := by
  have := pair_at (fun i => Value.string (nameB i)) (fun i => .string (shapeB i)) 28 0 k h
  rw [Nat.zero_add] at this
  unfold tabCells
  simpa using this
theorem tab_cut (k : Nat) (h : k < 28) : tabCells.extract (k * 2) (k * 2 + 2) = #[.string (nameB k), .string (shapeB k)] := by
  have hs : tabCells.size = 56 := by kernel_rfl
  obtain ⟨h1, h2⟩ := tab_cell k h
  apply Array.ext
  · simp [hs]; omega
  · intro i hi1 hi2
    rw [Array.getElem_extract]
    have hi : i = 0 ∨ i = 1 := by simp at hi2; omega
    rcases hi with rfl | rfl
    · exact (Array.getElem?_eq_some_iff.1 h1).2
    · exact (Array.getElem?_eq_some_iff.1 h2).2
theorem tab_index (k : Nat) (h : k < 28) (w : World) : (Instr.index 46 (Value.agg tabCells) (Value.int .i64 k)).run Tryd.prog w = .ok (.agg #[.string (nameB k), .string (shapeB k)]) w := by
  have hk : (0 : Int) ≤ (k : Int) ∧ (k : Int) < ((28 : Nat) : Int) := by omega
  have hsz : (sizeOf 45).run Tryd.prog w = .ok 2 w := by kernel_rfl
  have hag : (isAgg 45).run Tryd.prog w = .ok true w := by kernel_rfl
  rw [← tab_cut k h]
  simp [Instr.index, run_underlying Tryd.underlying46, asIntOf, hk, go_sem, part, hsz, hag]
  intro hh
  omega
set_option maxRecDepth 20000 in
theorem measured (w : World) (hT : TabBlk w) : Calls Tryd.prog 51 #[] w fun e w' => e = .returned (.int .i64 4) ∧ Below w.heap.size w w' := by
  obtain ⟨t, fr, hg⟩ := hT
  have HG := Lib.hid hg
  clear hg
  obtain ⟨tc, htc⟩ : ∃ tc, tc = tabCells := ⟨_, rfl⟩
  have HTC := Lib.hid htc
  rw [← htc] at HG
  have hsz : (Tryd.prog.info? 46).map (·.size) = some tc.size := by rw [htc]; kernel_rfl
  have HSZ := Lib.hid hsz
  clear htc hsz
  go_enter Tryd.func51, Tryd.ntmps51
  go_wp2_with (refine wpList_load_row rfl 46 (.global 0) rfl 0 rfl t tc fr _ HG.out Tryd.underlying46 rfl HSZ.out ?_)
  go_loopw [1, 5] (fun n i wr => ∃ k : Nat, k ≤ 28 ∧ i = .int .i64 k ∧ n = .int .i64 (longest k) ∧ Below w.heap.size w wr) (fun _ i _ => 28 - (intOf i).toNat)
  case atStart => exact ⟨0, by omega, rfl, rfl, Below.refl _ _⟩
  case round =>
    obtain ⟨k, hk, rfl, rfl, hB⟩ := hrel
    by_cases hlt : k < 28
    · have hk28 : (k : Int) < 28 := by omega
      have hidx := fun w => tab_index k hlt w
      rw [← HTC.out] at hidx
      have hsk := longest_succ k
      have HSK := Lib.hid hsk
      clear hsk
      go_wp2
      go_roundw
      case rel => exact ⟨k + 1, by omega, by go_num, by rw [HSK.out]; split <;> (congr 1; omega), hB.alloc (by have := hB.size; omega) _⟩
      case measure => simp [intOf]; omega
    · have hk' : k = 28 := by omega
      subst hk'
      go_wp2
      go_ret
      exact ⟨by rw [longest_all]; rfl, hB⟩
theorem nameLen (i : Nat) (h2 : i ≤ 27) : (nameB i).size ≤ 4 := by
  have q : ((List.range 28).all fun i => decide ((nameB i).size ≤ 4)) = true := by kernel_rfl
  simpa using List.all_eq_true.1 q i (List.mem_range.2 (by omega))
set_option maxRecDepth 20000 in
theorem number_no (s : ByteArray) (w : World) (hT : TabBlk w) (hs : s.size < 9223372036854775807) (hno : ∀ i : Nat, 1 ≤ i → i ≤ 27 → ¬ (nameB i).toList = s.toList) : Calls Tryd.prog 39 #[.string s] w fun e w' => e = .returned (.tuple #[.int .u8 0, .bool false]) ∧ Below w.heap.size w w' := by
  have HT := Lib.hid hT
  obtain ⟨t, fr, hg⟩ := hT
  have HNO := Lib.hid hno
  clear hno
  by_cases h0 : s.toList = []
  · have hb0 : (s.toList == []) = true := by simpa using h0
    have HZ := Lib.hid h0
    clear h0 hg
    go_enter Tryd.func39, Tryd.ntmps39
    go_wp2_with (go_at_call 51; refine (measured _ HT.out).mono ?_; rintro e w' ⟨rfl, hb1⟩)
    all_goals go_ret2
    all_goals exact ⟨rfl, hb1⟩
  · have hb0 : (s.toList == []) = false := by simpa using h0
    have HZ := Lib.hid h0
    clear h0
    by_cases h4 : s.size ≤ 4
    · have hg0 : ∀ w', Below w.heap.size w w' → w'.heap[0]? = some (.cells tabCells t fr) := fun w' hb => by rw [hb.block 0 (Array.getElem?_eq_some_iff.1 hg).1]; exact hg
      obtain ⟨tc, htc⟩ : ∃ tc, tc = tabCells := ⟨_, rfl⟩
      have HTC := Lib.hid htc
      rw [← htc] at hg0
      have hsz : (Tryd.prog.info? 46).map (·.size) = some tc.size := by rw [htc]; kernel_rfl
      have HG := Lib.hid hg0
      have HSZ := Lib.hid hsz
      clear htc hsz hg hg0
      go_enter Tryd.func39, Tryd.ntmps39
      go_wp2_with (first | (go_at_call 51; refine (measured _ HT.out).mono ?_; rintro e w' ⟨rfl, hb1⟩) | (refine wpList_load_row rfl 46 (.global 0) rfl 0 rfl t tc fr _ (HG.out _ hb1) Tryd.underlying46 rfl HSZ.out ?_))
      go_loopw [15] (fun i wr => ∃ k : Nat, k ≤ 28 ∧ i = .int .i64 k ∧ Below w.heap.size w wr) (fun i _ => 28 - (intOf i).toNat)
      case atStart => exact ⟨0, by omega, rfl, hb1⟩
      case round =>
        obtain ⟨k, hk, rfl, hB⟩ := hrel
        by_cases hlt : k < 28
        · have hk28 : (k : Int) < 28 := by omega
          have hidx := fun w => tab_index k hlt w
          rw [← HTC.out] at hidx
          have hne : ((nameB k).toList == s.toList) = false := by
            rw [beq_eq_false_iff_ne]
            rcases Nat.eq_zero_or_pos k with rfl | hp
            · intro hh
              exact HZ.out (hh.symm.trans (by kernel_rfl))
            · exact HNO.out k hp (by omega)
          go_wp2
          go_roundw
          case rel => exact ⟨k + 1, by omega, by go_num, hB.alloc (by have := hB.size; omega) _⟩
          case measure => simp [intOf]; omega
        · have hk' : k = 28 := by omega
          subst hk'
          go_wp2
          go_ret2
          exact ⟨rfl, hB⟩
    · have h4' : (4 : Int) < s.size := by omega
      clear hg
      go_enter Tryd.func39, Tryd.ntmps39
      go_wp2_with (go_at_call 51; refine (measured _ HT.out).mono ?_; rintro e w' ⟨rfl, hb1⟩)
      all_goals go_ret2
      all_goals exact ⟨rfl, hb1⟩
end Go.Proofs.YtcbhkeinmdobhaaDoor

namespace Go.Proofs.YtcbhkeinmdobhaaDoor
open Go.ChangeShapes Go.WideShapes Go.ChangeAt Go.RowKit
set_option linter.unusedVariables false
set_option linter.unusedSimpArgs false

theorem namesL : ((List.range 28).all fun i => (List.range 28).all fun j => i == j || !((nameB i).toList == (nameB j).toList)) = true := by kernel_rfl
theorem names_apart (k i : Nat) (h1 : k ≤ 27) (h2 : i ≤ 27) (h : k ≠ i) : ((nameB k).toList == (nameB i).toList) = false := by
  have q := List.all_eq_true.1 (List.all_eq_true.1 namesL k (List.mem_range.2 (by omega))) i (List.mem_range.2 (by omega))
  have hij : (k == i) = false := by simpa using h
  rw [hij, Bool.false_or] at q
  simpa using q
theorem namePos : ((List.range 28).all fun i => i == 0 || !((nameB i).toList == [])) = true := by kernel_rfl
set_option maxRecDepth 20000 in
theorem number_yes (i : Nat) (w : World) (hT : TabBlk w) (h1 : 1 ≤ i) (h2 : i ≤ 27) : Calls Tryd.prog 39 #[.string (nameB i)] w fun e w' => e = .returned (.tuple #[.int .u8 i, .bool true]) ∧ Below w.heap.size w w' := by
  have HT := Lib.hid hT
  obtain ⟨t, fr, hg⟩ := hT
  have hb0 : ((nameB i).toList == []) = false := by
    have q := List.all_eq_true.1 namePos i (List.mem_range.2 (by omega))
    have hij : (i == 0) = false := by simp; omega
    rw [hij, Bool.false_or] at q
    simpa using q
  have h4 := nameLen i h2
  have hg0 : ∀ w', Below w.heap.size w w' → w'.heap[0]? = some (.cells tabCells t fr) := fun w' hb => by rw [hb.block 0 (Array.getElem?_eq_some_iff.1 hg).1]; exact hg
  obtain ⟨tc, htc⟩ : ∃ tc, tc = tabCells := ⟨_, rfl⟩
  have HTC := Lib.hid htc
  rw [← htc] at hg0
  have hsz : (Tryd.prog.info? 46).map (·.size) = some tc.size := by rw [htc]; kernel_rfl
  have HG := Lib.hid hg0
  have HSZ := Lib.hid hsz
  clear htc hsz hg hg0
  go_enter Tryd.func39, Tryd.ntmps39
  go_wp2_with (first | (go_at_call 51; refine (measured _ HT.out).mono ?_; rintro e w' ⟨rfl, hb1⟩) | (refine wpList_load_row rfl 46 (.global 0) rfl 0 rfl t tc fr _ (HG.out _ hb1) Tryd.underlying46 rfl HSZ.out ?_))
  go_loopw [15] (fun j wr => ∃ k : Nat, k ≤ i ∧ j = .int .i64 k ∧ Below w.heap.size w wr) (fun j _ => 28 - (intOf j).toNat)
  case atStart => exact ⟨0, by omega, rfl, hb1⟩
  case round =>
    obtain ⟨k, hk, rfl, hB⟩ := hrel
    have hk28 : (k : Int) < 28 := by omega
    have hidx := fun w => tab_index k (by omega) w
    rw [← HTC.out] at hidx
    by_cases hlt : k < i
    · have hne := names_apart k i (by omega) h2 (by omega)
      go_wp2
      go_roundw
      case rel => exact ⟨k + 1, by omega, by go_num, hB.alloc (by have := hB.size; omega) _⟩
      case measure => simp [intOf]; omega
    · have hk' : k = i := by omega
      subst hk'
      go_wp2
      go_ret2
      exact ⟨rfl, hB.alloc (by have := hB.size; omega) _⟩
end Go.Proofs.YtcbhkeinmdobhaaDoor
