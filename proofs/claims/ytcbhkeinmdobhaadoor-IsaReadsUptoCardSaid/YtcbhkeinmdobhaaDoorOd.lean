import Derived.Test.YtcbhkeinmdobhaaDoorDc
namespace Go.Proofs.YtcbhkeinmdobhaaDoor
open Go.ChangeShapes Go.WideShapes Go.ChangeAt Go.RowKit
set_option linter.unusedVariables false
set_option linter.unusedSimpArgs false

/-- what stands for a letter -/
def opnd (a b c : Nat) (n : Int) (ch : Nat) : ByteArray := if ch = 97 then ⟨#[114]⟩ ++ dig a else if ch = 98 then ⟨#[114]⟩ ++ dig b else if ch = 99 then ⟨#[114]⟩ ++ dig c else dec n
theorem dec_nat (u : Nat) : dec (u : Int) = dig u := by unfold dig dec; rw [Lib.itoa_nonneg]
theorem decimal_reg (a : Nat) (h : a < 256) (w : World) : Calls Tryd.prog 49 #[.int .i64 a] w fun e w' => (e = .returned (.string (dig a)) ∧ (dig a).size ≤ 40) ∧ Below w.heap.size w w' :=
  (decimal a (by omega) (by omega) w).mono fun e w' h2 => ⟨⟨by rw [← dec_nat]; exact h2.1, dig_size10 a (by omega)⟩, h2.2⟩
set_option maxRecDepth 20000 in
theorem operand_a (i a b c : Nat) (n : Int) (w : World) (hi : i < 256) (ha : a < 256) (hb : b < 256) (hc : c < 256) : Calls Tryd.prog 35 #[ins i a b c n, .int .u8 97] w fun e w' => e = .returned (.string (⟨#[114]⟩ ++ dig a)) ∧ Below w.heap.size w w' := by
  go_enter Tryd.func35, Tryd.ntmps35
  go_wp2_with (go_at_call 49; refine (decimal_reg a (by omega) _).mono ?_; rintro e w' ⟨⟨rfl, hd⟩, hbb⟩)
  go_ret
  exact ⟨rfl, ((Below.refl _ _).alloc (Nat.le_refl _) _).trans (hbb.mono (by simp))⟩
set_option maxRecDepth 20000 in
theorem operand_b (i a b c : Nat) (n : Int) (w : World) (hi : i < 256) (ha : a < 256) (hb : b < 256) (hc : c < 256) : Calls Tryd.prog 35 #[ins i a b c n, .int .u8 98] w fun e w' => e = .returned (.string (⟨#[114]⟩ ++ dig b)) ∧ Below w.heap.size w w' := by
  go_enter Tryd.func35, Tryd.ntmps35
  go_wp2_with (go_at_call 49; refine (decimal_reg b (by omega) _).mono ?_; rintro e w' ⟨⟨rfl, hd⟩, hbb⟩)
  go_ret
  exact ⟨rfl, ((Below.refl _ _).alloc (Nat.le_refl _) _).trans (hbb.mono (by simp))⟩
set_option maxRecDepth 20000 in
theorem operand_c (i a b c : Nat) (n : Int) (w : World) (hi : i < 256) (ha : a < 256) (hb : b < 256) (hc : c < 256) : Calls Tryd.prog 35 #[ins i a b c n, .int .u8 99] w fun e w' => e = .returned (.string (⟨#[114]⟩ ++ dig c)) ∧ Below w.heap.size w w' := by
  go_enter Tryd.func35, Tryd.ntmps35
  go_wp2_with (go_at_call 49; refine (decimal_reg c (by omega) _).mono ?_; rintro e w' ⟨⟨rfl, hd⟩, hbb⟩)
  go_ret
  exact ⟨rfl, ((Below.refl _ _).alloc (Nat.le_refl _) _).trans (hbb.mono (by simp))⟩
set_option maxRecDepth 20000 in
theorem operand_110 (i a b c : Nat) (n : Int) (w : World) (hn0 : -2147483648 ≤ n) (hn1 : n ≤ 2147483647) : Calls Tryd.prog 35 #[ins i a b c n, .int .u8 110] w fun e w' => e = .returned (.string (dec n)) ∧ Below w.heap.size w w' := by
  go_enter Tryd.func35, Tryd.ntmps35
  go_wp2_with (go_at_call 49; refine (decimal n (by omega) (by omega) _).mono ?_; rintro e w' ⟨rfl, hbb⟩)
  go_ret
  exact ⟨rfl, ((Below.refl _ _).alloc (Nat.le_refl _) _).trans (hbb.mono (by simp))⟩
set_option maxRecDepth 20000 in
theorem operand_112 (i a b c : Nat) (n : Int) (w : World) (hn0 : -2147483648 ≤ n) (hn1 : n ≤ 2147483647) : Calls Tryd.prog 35 #[ins i a b c n, .int .u8 112] w fun e w' => e = .returned (.string (dec n)) ∧ Below w.heap.size w w' := by
  go_enter Tryd.func35, Tryd.ntmps35
  go_wp2_with (go_at_call 49; refine (decimal n (by omega) (by omega) _).mono ?_; rintro e w' ⟨rfl, hbb⟩)
  go_ret
  exact ⟨rfl, ((Below.refl _ _).alloc (Nat.le_refl _) _).trans (hbb.mono (by simp))⟩
end Go.Proofs.YtcbhkeinmdobhaaDoor
