import Derived.Test.YtcbhkeinmdobhaaDoorKn
namespace Go.Proofs.YtcbhkeinmdobhaaDoor
open Go.ChangeShapes Go.WideShapes Go.ChangeAt Go.RowKit
set_option linter.unusedVariables false
set_option linter.unusedSimpArgs false

theorem small_any (s : ByteArray) (w : World) (hs : s.size ≤ 100) (h0 : 0 < s.size) (hl : ∀ (k : Nat) (h : k < s.size), 97 ≤ (s[k].toNat : Int) ∧ (s[k].toNat : Int) ≤ 122) : Calls Tryd.prog 20 #[.string s] w fun e w' => e = .returned (.bool true) ∧ w = w' := by
  have HL := Lib.hid hl
  clear hl
  go_enter Tryd.func20, Tryd.ntmps20
  go_wp2
  go_loop [3] (fun i => ∃ k : Nat, k ≤ s.size ∧ i = .int .i64 k) (fun i => s.size - (intOf i).toNat)
  case atStart => exact ⟨0, Nat.zero_le _, rfl⟩
  case round =>
    obtain ⟨k, hk, rfl⟩ := hrel
    by_cases hlt : k < s.size
    · have q := HL.out k hlt
      obtain ⟨q1, q2⟩ := q
      go_wp2
      go_round
      case rel => exact ⟨k + 1, by omega, by go_num⟩
      case measure => simp [intOf]; omega
    · have hk' : k = s.size := by omega
      have HK := Lib.hid hk'
      clear hk'
      go_wp2
      go_ret
      exact ⟨by simp, rfl⟩
def nameOkB (i : Nat) : Bool := decide (0 < (opNames.getD i []).length) && (opNames.getD i []).all fun b => decide (97 ≤ b.toNat) && decide (b.toNat ≤ 122)
theorem nameOk : ((List.range 28).all fun i => i == 0 || nameOkB i) = true := by kernel_rfl
theorem namesApart : ((List.range 28).all fun i => (List.range 28).all fun j => i == j || decide (opNames.getD i [] ≠ opNames.getD j [])) = true := by kernel_rfl
theorem name_small (i : Nat) (w : World) (h1 : 1 ≤ i) (h2 : i ≤ 27) : Calls Tryd.prog 20 #[.string (nameB i)] w fun e w' => e = .returned (.bool true) ∧ w = w' := by
  have h := List.all_eq_true.1 nameOk i (List.mem_range.2 (by omega))
  have hi : (i == 0) = false := by simp; omega
  rw [hi, Bool.false_or, nameOkB, Bool.and_eq_true] at h
  refine small_any (nameB i) w (nameB_size i h1 h2) (by simpa [nameB, ByteArray.size] using h.1) fun k hk => ?_
  have hm := List.all_eq_true.1 h.2 ((nameB i)[k]) (by simp [nameB, ByteArray.getElem_eq_getElem_data])
  simp at hm
  omega
theorem name_ne (i j : Nat) (h1 : 1 ≤ i) (h2 : i ≤ 27) (h3 : 1 ≤ j) (h4 : j ≤ 27) (h : i ≠ j) : nameB i ≠ nameB j := by
  intro e
  have q := List.all_eq_true.1 (List.all_eq_true.1 namesApart i (List.mem_range.2 (by omega))) j (List.mem_range.2 (by omega))
  have hij : (i == j) = false := by simpa using h
  rw [hij, Bool.false_or, decide_eq_true_eq] at q
  apply q
  have := congrArg (fun s : ByteArray => s.data.toList) e
  simpa [nameB] using this
theorem name_pos (i : Nat) (h1 : 1 ≤ i) (h2 : i ≤ 27) : nameB i ≠ ⟨#[]⟩ := by
  have h := List.all_eq_true.1 nameOk i (List.mem_range.2 (by omega))
  have hi : (i == 0) = false := by simp; omega
  rw [hi, Bool.false_or, nameOkB, Bool.and_eq_true] at h
  intro e
  have h1 : 0 < (nameB i).size := by simpa [nameB, ByteArray.size] using h.1
  rw [e] at h1
  exact absurd h1 (by decide)
end Go.Proofs.YtcbhkeinmdobhaaDoor
