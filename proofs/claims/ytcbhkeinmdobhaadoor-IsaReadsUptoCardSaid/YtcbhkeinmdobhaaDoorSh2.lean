import Derived.Test.YtcbhkeinmdobhaaDoorMa
import Derived.Test.YtcbhkeinmdobhaaDoorSf
import Derived.Lib.ItoaLen
namespace Go.Proofs.YtcbhkeinmdobhaaDoor
open Go.ChangeShapes Go.WideShapes Go.ChangeAt Go.RowKit
set_option linter.unusedVariables false
set_option linter.unusedSimpArgs false
def dig (a : Nat) : ByteArray := ⟨(Lib.decDigits a).toArray⟩
def dec (n : Int) : ByteArray := ⟨(Lib.itoa n).toArray⟩
theorem dig_size (a : Nat) (h : a < 16) : (dig a).size ≤ 2 := by
  show (Lib.decDigits a).toArray.size ≤ 2
  by_cases h1 : a < 10
  · rw [Lib.decDigits_one h1]; simp
  · rw [Lib.decDigits_two h1 (by omega)]; simp
theorem dec_size (n : Int) (h0 : -2147483648 ≤ n) (h1 : n ≤ 2147483647) : (dec n).size ≤ 40 := by
  show (Lib.itoa n).toArray.size ≤ 40
  have := Lib.itoa_length_le n (by omega) (by omega)
  simp; omega
theorem itoa_reg (a : Nat) (h : a < 16) (w : World) : Calls Tryd.prog 33 #[.int .i64 a] w fun e w' => (e = .returned (.string (dig a)) ∧ (dig a).size ≤ 2) ∧ w = w' :=
  (Tryd.strconv_Itoa_small a (by omega) w).mono fun e w' h2 => ⟨⟨h2.1, dig_size a h⟩, h2.2.symm⟩
theorem itoa_imm (n : Int) (h0 : -2147483648 ≤ n) (h1 : n ≤ 2147483647) (w : World) (hP : Lib.TabIs Tryd.prog w "internal/strconv.uint64pow10" .u64 Lib.pow10Tab) :
    Calls Tryd.prog 33 #[.int .i64 n] w fun e w' => (e = .returned (.string (dec n)) ∧ (dec n).size ≤ 40) ∧ Below w.heap.size w w' :=
  (Tryd.strconv_Itoa n (by omega) (by omega) w hP).mono fun e w' h2 => ⟨⟨h2.1, dec_size n h0 h1⟩, by obtain ⟨k, os, rfl⟩ := h2.2; exact Lib.below_grow _ _ (Nat.le_refl _) k os⟩
end Go.Proofs.YtcbhkeinmdobhaaDoor
