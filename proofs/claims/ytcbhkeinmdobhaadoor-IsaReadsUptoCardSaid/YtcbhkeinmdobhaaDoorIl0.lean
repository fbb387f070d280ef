import Derived.Test.YtcbhkeinmdobhaaDoorOpn
import Derived.Test.YtcbhkeinmdobhaaDoorPl
namespace Go.Proofs.YtcbhkeinmdobhaaDoor
open Go.ChangeShapes Go.WideShapes Go.ChangeAt Go.RowKit
set_option linter.unusedVariables false
set_option linter.unusedSimpArgs false

theorem eq5no (op a b c n : Int) (h : ¬ (a = 0 ∧ b = 0 ∧ c = 0 ∧ n = 0)) (w : World) : (Op.equalIn 10000 26 (ins op a b c n) (ins op 0 0 0 0)).run Tryd.prog w = .ok false w := by
  have h1 : (decide (a = 0) && (decide (b = 0) && (decide (c = 0) && decide (n = 0)))) = false := by
    rw [Bool.eq_false_iff]
    intro e
    simp only [Bool.and_eq_true, decide_eq_true_eq] at e
    exact h e
  by_cases ha : a = 0
  · by_cases hb : b = 0
    · by_cases hc : c = 0
      · have hn : n ≠ 0 := fun hn => h ⟨ha, hb, hc, hn⟩
        unfold ins
        go_simp
      · unfold ins
        go_simp
    · unfold ins
      go_simp
  · unfold ins
    go_simp
theorem legal_at (i : Nat) (a b c n : Int) (L : Array UInt8) (h1 : 1 ≤ i) (h2 : i ≤ 27) (hs : shapeB i = ⟨L⟩) : legalB i a b c n = legalS L.toList a b c n := by
  unfold legalB
  have h : (opShapes.getD i []) = L.toList := by rw [← shapeB_list, hs]
  rw [Int.toNat_natCast, h]
  have : (1 : Int) ≤ (i : Int) ∧ (i : Int) ≤ 27 := by omega
  simp [this]
theorem jumpB_at (i : Nat) (a b c n : Int) (L : Array UInt8) (h1 : 1 ≤ i) (h2 : i ≤ 27) (hs : shapeB i = ⟨L⟩) : jumpB i a b c n = (legalB i a b c n && (decide (i = 25) || hasB L.toList 112)) := by
  unfold jumpB
  have h : (opShapes.getD i []) = L.toList := by rw [← shapeB_list, hs]
  rw [Int.toNat_natCast, h]
  congr 2
  simp; omega
theorem jumps_t (i : Nat) (a b c n : Int) (w W : World) (T : Tabs w) (hB : Below w.heap.size w W) (h2 : i ≤ 27) (ha : 0 ≤ a) (hb : 0 ≤ b) (hc : 0 ≤ c) (hn0 : -2147483648 ≤ n) (hn1 : n ≤ 2147483647) :
    Calls Tryd.prog 23 #[ins i a b c n] W fun e w' => e = .returned (.tuple #[.int .i64 (jumpV i a b c n), .bool (jumpB i a b c n)]) ∧ Below W.heap.size W w' ∧ Below w.heap.size w w' :=
  (jumps i a b c n W (by omega) (by omega) ha hb hc hn0 hn1 (T.on hB).tab (T.on hB).pos).mono fun e w' h => ⟨h.1, h.2, hB.trans (h.2.mono hB.size)⟩
theorem known_w (w W : World) (T : Tabs w) (hB : Below w.heap.size w W) : Calls Tryd.prog 17 #[] W fun e w' => e = .returned (.bool true) ∧ Below W.heap.size W w' ∧ Below w.heap.size w w' :=
  (known_t W (T.on hB)).mono fun e w' h => ⟨h.1, h.2, hB.trans (h.2.mono hB.size)⟩
theorem legal_w (i : Nat) (a b c n : Int) (w W : World) (T : Tabs w) (hB : Below w.heap.size w W) (h2 : i ≤ 27) (ha : 0 ≤ a) (hb : 0 ≤ b) (hc : 0 ≤ c) :
    Calls Tryd.prog 25 #[ins i a b c n] W fun e w' => e = .returned (.bool (legalB i a b c n)) ∧ Below W.heap.size W w' ∧ Below w.heap.size w w' :=
  (legal i a b c n W (by omega) (by omega) ha hb hc (T.on hB).tab (T.on hB).pos).mono fun e w' h => ⟨h.1, h.2, hB.trans (h.2.mono hB.size)⟩
theorem jmrL : ((List.range 28).all fun i => i == 25 || !((nameB i).toList == [106, 109, 114])) = true := by kernel_rfl
theorem notJmr (i : Nat) (h2 : i ≤ 27) (h : i ≠ 25) : ((nameB i).toList == [106, 109, 114]) = false := by
  have q := List.all_eq_true.1 jmrL i (List.mem_range.2 (by omega))
  have hi : (i == 25) = false := by simpa using h
  rw [hi, Bool.false_or] at q
  simpa using q
theorem onlyL : ((List.range 28).all fun i => i == 25 || decide (opShapes.getD i [] ≠ [97])) = true := by kernel_rfl
theorem only25 (i : Nat) (h1 : 1 ≤ i) (h2 : i ≤ 27) (hs : shapeB i = ⟨#[97]⟩) : i = 25 := by
  have q := List.all_eq_true.1 onlyL i (List.mem_range.2 (by omega))
  rw [Bool.or_eq_true, decide_eq_true_eq] at q
  rcases q with q | q
  · simpa using q
  · exact absurd (by rw [← shapeB_list, hs]) q
end Go.Proofs.YtcbhkeinmdobhaaDoor
