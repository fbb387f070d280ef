import Derived.Test.YtcbhkeinmdobhaaDoorMs
namespace Go.Proofs.YtcbhkeinmdobhaaDoor
open Go.ChangeShapes Go.WideShapes Go.ChangeAt Go.RowKit
set_option linter.unusedVariables false
set_option linter.unusedSimpArgs false

theorem namesL : ((List.range 28).all fun i => (List.range 28).all fun j => i == j || !((nameB i).toList == (nameB j).toList)) = true := by kernel_rfl
theorem names_apart (k i : Nat) (h1 : k ≤ 27) (h2 : i ≤ 27) (h : k ≠ i) : ((nameB k).toList == (nameB i).toList) = false := by
  have q := List.all_eq_true.1 (List.all_eq_true.1 namesL k (List.mem_range.2 (by omega))) i (List.mem_range.2 (by omega))
  have hij : (k == i) = false := by simpa using h
  rw [hij, Bool.false_or] at q
  simpa using q
theorem namePos : ((List.range 28).all fun i => i == 0 || !((nameB i).toList == [])) = true := by kernel_rfl
set_option maxRecDepth 20000 in
theorem number_yes (i : Nat) (w : World) (hT : TabBlk w) (h1 : 1 ≤ i) (h2 : i ≤ 27) : Calls Tryd.prog 39 #[.string (nameB i)] w fun e w' => e = .returned (.tuple #[.int .u8 i, .bool true]) ∧ Below w.heap.size w w' := by
  have HT := Lib.hid hT
  obtain ⟨t, fr, hg⟩ := hT
  have hb0 : ((nameB i).toList == []) = false := by
    have q := List.all_eq_true.1 namePos i (List.mem_range.2 (by omega))
    have hij : (i == 0) = false := by simp; omega
    rw [hij, Bool.false_or] at q
    simpa using q
  have h4 := nameLen i h2
  have hg0 : ∀ w', Below w.heap.size w w' → w'.heap[0]? = some (.cells tabCells t fr) := fun w' hb => by rw [hb.block 0 (Array.getElem?_eq_some_iff.1 hg).1]; exact hg
  obtain ⟨tc, htc⟩ : ∃ tc, tc = tabCells := ⟨_, rfl⟩
  have HTC := Lib.hid htc
  rw [← htc] at hg0
  have hsz : (Tryd.prog.info? 46).map (·.size) = some tc.size := by rw [htc]; kernel_rfl
  have HG := Lib.hid hg0
  have HSZ := Lib.hid hsz
  clear htc hsz hg hg0
  go_enter Tryd.func39, Tryd.ntmps39
  go_wp2_with (first | (go_at_call 51; refine (measured _ HT.out).mono ?_; rintro e w' ⟨rfl, hb1⟩) | (refine wpList_load_row rfl 46 (.global 0) rfl 0 rfl t tc fr _ (HG.out _ hb1) Tryd.underlying46 rfl HSZ.out ?_))
  go_loopw [15] (fun j wr => ∃ k : Nat, k ≤ i ∧ j = .int .i64 k ∧ Below w.heap.size w wr) (fun j _ => 28 - (intOf j).toNat)
  case atStart => exact ⟨0, by omega, rfl, hb1⟩
  case round =>
    obtain ⟨k, hk, rfl, hB⟩ := hrel
    have hk28 : (k : Int) < 28 := by omega
    have hidx := fun w => tab_index k (by omega) w
    rw [← HTC.out] at hidx
    by_cases hlt : k < i
    · have hne := names_apart k i (by omega) h2 (by omega)
      go_wp2
      go_roundw
      case rel => exact ⟨k + 1, by omega, by go_num, hB.alloc (by have := hB.size; omega) _⟩
      case measure => simp [intOf]; omega
    · have hk' : k = i := by omega
      subst hk'
      go_wp2
      go_ret2
      exact ⟨rfl, hB.alloc (by have := hB.size; omega) _⟩
end Go.Proofs.YtcbhkeinmdobhaaDoor
