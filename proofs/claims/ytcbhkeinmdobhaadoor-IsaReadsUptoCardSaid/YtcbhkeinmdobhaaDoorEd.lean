import Derived.Test.YtcbhkeinmdobhaaDoorMa
import Derived.Laws.BitsLemmas
namespace Go.Proofs.YtcbhkeinmdobhaaDoor
open Go.ChangeShapes Go.WideShapes Go.ChangeAt Go.RowKit
set_option linter.unusedVariables false
set_option linter.unusedSimpArgs false

abbrev encV (op a b c n : Int) : Value := .agg #[.int .u8 op, .int .u8 a, .int .u8 b, .int .u8 c, Value.int IntKind.u8 (n % 4294967296 / 16777216), Value.int IntKind.u8 (n % 4294967296 / 65536 % 256), Value.int IntKind.u8 (n % 4294967296 / 256 % 256), Value.int IntKind.u8 (n % 256)]
theorem enc_isa (op a b c n : Int) (w : World) :
    Calls Tryd.prog 19 #[.agg #[.int .u8 op, .int .u8 a, .int .u8 b, .int .u8 c, .int .i32 n]] w fun e w' => e = .returned (encV op a b c n) ∧ Below w.heap.size w w' := by
  go_enter Tryd.func19, Tryd.ntmps19
  go_wp2
  exact bodyPost_ret (v := encV op a b c n) (by simp [results, Tryd.results19, go_sem]) rfl ⟨rfl, ((Below.refl _ _).alloc (Nat.le_refl _) _).alloc (by simp) _⟩
abbrev decV (a b c d e f g h : Int) : Value := .agg #[.int .u8 a, .int .u8 b, .int .u8 c, .int .u8 d, .int .i32 (wrap32 (((e * 256 + f) * 256 + g) * 256 + h))]
theorem or3 (e f g h : Int) (he : 0 ≤ e) (he' : e < 256) (hf : 0 ≤ f) (hf' : f < 256) (hg : 0 ≤ g) (hg' : g < 256) (hh : 0 ≤ h) (hh' : h < 256) :
    bits BinOp.or IntKind.u32 (bits BinOp.or IntKind.u32 (bits BinOp.or IntKind.u32 (e * 16777216) (f * 65536)) (g * 256)) h = ((e * 256 + f) * 256 + g) * 256 + h := by
  have hk : ∀ n : Int, 0 ≤ n → n < 2 ^ 32 → IntKind.u32.wrap n = n := fun n h0 h1 => by rw [IntKind.wrap_u32]; omega
  rw [bits_join .u32 32 (by decide) hk 24 (e * 16777216) (f * 65536) (by omega) (by omega) (by omega) (by omega) (by omega) (by omega)]
  rw [bits_join .u32 32 (by decide) hk 16 (e * 16777216 + f * 65536) (g * 256) (by omega) (by omega) (by omega) (by omega) (by omega) (by omega)]
  rw [bits_join .u32 32 (by decide) hk 8 (e * 16777216 + f * 65536 + g * 256) h (by omega) (by omega) (by omega) (by omega) (by omega) (by omega)]
  omega
theorem dec_isa (a b c d e f g h : Int) (w : World) (he : 0 ≤ e) (he' : e < 256) (hf : 0 ≤ f) (hf' : f < 256) (hg : 0 ≤ g) (hg' : g < 256) (hh : 0 ≤ h) (hh' : h < 256) :
    Calls Tryd.prog 18 #[.agg #[.int .u8 a, .int .u8 b, .int .u8 c, .int .u8 d, .int .u8 e, .int .u8 f, .int .u8 g, .int .u8 h]] w fun e' w' => e' = .returned (decV a b c d e f g h) ∧ Below w.heap.size w w' := by
  go_enter Tryd.func18, Tryd.ntmps18
  go_wp2
  have H := or3 e f g h he he' hf hf' hg hg' hh hh'
  refine bodyPost_ret (v := decV a b c d e f g h) (by simp [results, Tryd.results18, go_sem]; exact congrArg wrap32 H) rfl ⟨rfl, ((Below.refl _ _).alloc (Nat.le_refl _) _).alloc (by simp) _⟩
theorem eq8 (a b c d e f g h : Int) (w : World) : (Op.equalIn 10000 27 (.agg #[.int .u8 a, .int .u8 b, .int .u8 c, .int .u8 d, .int .u8 e, .int .u8 f, .int .u8 g, .int .u8 h]) (.agg #[.int .u8 a, .int .u8 b, .int .u8 c, .int .u8 d, .int .u8 e, .int .u8 f, .int .u8 g, .int .u8 h])).run Tryd.prog w = .ok true w := by
  rw [run_equalIn_array w 9999 _ _ Tryd.underlying27 (i := (Tryd.prog.info? 5).get (by kernel_rfl)) (by kernel_rfl)]
  rw [show List.range 8 = [0,1,2,3,4,5,6,7] from rfl, show Tryd.prog.cellsOf 5 = 1 from by kernel_rfl]
  simp only [Op.eqItems]
  go_simp
theorem eq5 (op a b c n : Int) (w : World) : (Op.equalIn 10000 26 (ins op a b c n) (ins op a b c n)).run Tryd.prog w = .ok true w := by
  unfold ins
  go_simp
theorem dec_enc (op a b c n : Int) (h0 : -2147483648 ≤ n) (h1 : n ≤ 2147483647) : decV op a b c (n % 4294967296 / 16777216) (n % 4294967296 / 65536 % 256) (n % 4294967296 / 256 % 256) (n % 256) = ins op a b c n := by
  unfold decV ins wrap32
  have : ((n % 4294967296 / 16777216 * 256 + n % 4294967296 / 65536 % 256) * 256 + n % 4294967296 / 256 % 256) * 256 + n % 256 = n % 4294967296 := by omega
  rw [this]
  congr 1
  congr 1
  simp
  omega
theorem enc_dec (a b c d e f g h : Int) (he : 0 ≤ e) (he' : e < 256) (hf : 0 ≤ f) (hf' : f < 256) (hg : 0 ≤ g) (hg' : g < 256) (hh : 0 ≤ h) (hh' : h < 256) :
    encV a b c d (wrap32 (((e * 256 + f) * 256 + g) * 256 + h)) = .agg #[.int .u8 a, .int .u8 b, .int .u8 c, .int .u8 d, .int .u8 e, .int .u8 f, .int .u8 g, .int .u8 h] := by
  have : wrap32 (((e * 256 + f) * 256 + g) * 256 + h) % 4294967296 = ((e * 256 + f) * 256 + g) * 256 + h := by unfold wrap32; omega
  unfold encV
  rw [this]
  have e1 : (((e * 256 + f) * 256 + g) * 256 + h) / 16777216 = e := by omega
  have e2 : (((e * 256 + f) * 256 + g) * 256 + h) / 65536 % 256 = f := by omega
  have e3 : (((e * 256 + f) * 256 + g) * 256 + h) / 256 % 256 = g := by omega
  have e4 : (((e * 256 + f) * 256 + g) * 256 + h) % 256 = h := by omega
  have e5 : wrap32 (((e * 256 + f) * 256 + g) * 256 + h) % 256 = h := by unfold wrap32; omega
  rw [e1, e2, e3, e5]
end Go.Proofs.YtcbhkeinmdobhaaDoor
