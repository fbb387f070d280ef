import Derived.Test.YtcbhkeinmdobhaaRows
import Derived.WalkKit
import Derived.ProofKit
import Derived.BigQuiet
import Derived.WalkSpells
import Derived.WalkLawsBesides
import Derived.Below
import Derived.Handy
import Derived.Lib.Hide
import Derived.Deep.RegionHeld3
import Derived.Laws.BitsLemmas
namespace Go.Proofs.Ytcbhkeinmdobhaa
open Go.ChangeShapes Go.WideShapes Go.ChangeAt Go.RowKit
set_option linter.unusedVariables false
set_option linter.unusedSimpArgs false

abbrev encV (op a b c n : Int) : Value := .agg #[.int .u8 op, .int .u8 a, .int .u8 b, .int .u8 c, Value.int IntKind.u8 (n % 4294967296 / 16777216), Value.int IntKind.u8 (n % 4294967296 / 65536 % 256), Value.int IntKind.u8 (n % 4294967296 / 256 % 256), Value.int IntKind.u8 (n % 256)]

theorem enc_isa (op a b c n : Int) (w : World) :
    Calls Try.prog 4 #[.agg #[.int .u8 op, .int .u8 a, .int .u8 b, .int .u8 c, .int .i32 n]] w fun e w' => e = .returned (encV op a b c n) ∧ Below w.heap.size w w' := by
  go_enter Try.func4, Try.ntmps4
  go_wp2
  exact bodyPost_ret (v := encV op a b c n) (by simp [results, Try.results4, go_sem]) rfl ⟨rfl, ((Below.refl _ _).alloc (Nat.le_refl _) _).alloc (by simp) _⟩
theorem bcell {W w1 : World} (hb : Below W.heap.size W w1) : (∀ b o, b < W.heap.size → w1.cell? ⟨b, o, none⟩ = W.cell? ⟨b, o, none⟩) ∧ (∀ b o, b < W.heap.size → w1.frozen? ⟨b, o, none⟩ = W.frozen? ⟨b, o, none⟩) :=
  ⟨fun b o h => hb.cell (p := ⟨b, o, none⟩) h, fun b o h => hb.frozen (p := ⟨b, o, none⟩) h⟩
theorem div3 (n : Int) : n % 4294967296 / 256 / 256 / 256 = n % 4294967296 / 16777216 := by omega
theorem div2 (n : Int) : n % 4294967296 / 256 / 256 = n % 4294967296 / 65536 := by omega
theorem mod3 (n : Int) : n % 4294967296 / 16777216 % 256 = n % 4294967296 / 16777216 := by omega
theorem div4 (n : Int) : n % 4294967296 / 65536 / 256 = n % 4294967296 / 16777216 := by omega
theorem enc_ref (op a b c n : Int) (w : World) :
    Calls Try.prog 5 #[.agg #[.int .u8 op, .int .u8 a, .int .u8 b, .int .u8 c, .int .i32 n]] w fun e w' => e = .returned (encV op a b c n) ∧ Below w.heap.size w w' := by
  go_enter Try.func5, Try.ntmps5
  go_wp2
  go_rounds 5
  refine bodyPost_ret (v := encV op a b c n) (by simp [results, Try.results5, go_sem, div3, div2, mod3, div4]) rfl ⟨rfl, (((Below.refl _ _).alloc (Nat.le_refl _) _).alloc (by simp) _).alloc (by simp; omega) _⟩

abbrev decV (a b c d e f g h : Int) : Value := .agg #[.int .u8 a, .int .u8 b, .int .u8 c, .int .u8 d, .int .i32 (wrap32 (((e * 256 + f) * 256 + g) * 256 + h))]

theorem or3 (e f g h : Int) (he : 0 ≤ e) (he' : e < 256) (hf : 0 ≤ f) (hf' : f < 256) (hg : 0 ≤ g) (hg' : g < 256) (hh : 0 ≤ h) (hh' : h < 256) :
    bits BinOp.or IntKind.u32 (bits BinOp.or IntKind.u32 (bits BinOp.or IntKind.u32 (e * 16777216) (f * 65536)) (g * 256)) h = ((e * 256 + f) * 256 + g) * 256 + h := by
  have hk : ∀ n : Int, 0 ≤ n → n < 2 ^ 32 → IntKind.u32.wrap n = n := fun n h0 h1 => by rw [IntKind.wrap_u32]; omega
  rw [bits_join .u32 32 (by decide) hk 24 (e * 16777216) (f * 65536) (by omega) (by omega) (by omega) (by omega) (by omega) (by omega)]
  rw [bits_join .u32 32 (by decide) hk 16 (e * 16777216 + f * 65536) (g * 256) (by omega) (by omega) (by omega) (by omega) (by omega) (by omega)]
  rw [bits_join .u32 32 (by decide) hk 8 (e * 16777216 + f * 65536 + g * 256) h (by omega) (by omega) (by omega) (by omega) (by omega) (by omega)]
  omega
theorem dec_isa (a b c d e f g h : Int) (w : World) (he : 0 ≤ e) (he' : e < 256) (hf : 0 ≤ f) (hf' : f < 256) (hg : 0 ≤ g) (hg' : g < 256) (hh : 0 ≤ h) (hh' : h < 256) :
    Calls Try.prog 6 #[.agg #[.int .u8 a, .int .u8 b, .int .u8 c, .int .u8 d, .int .u8 e, .int .u8 f, .int .u8 g, .int .u8 h]] w fun e' w' => e' = .returned (decV a b c d e f g h) ∧ Below w.heap.size w w' := by
  go_enter Try.func6, Try.ntmps6
  go_wp2
  have H := or3 e f g h he he' hf hf' hg hg' hh hh'
  refine bodyPost_ret (v := decV a b c d e f g h) (by simp [results, Try.results6, go_sem]; exact congrArg wrap32 H) rfl ⟨rfl, ((Below.refl _ _).alloc (Nat.le_refl _) _).alloc (by simp) _⟩
theorem dec_ref (a b c d e f g h : Int) (w : World) (he : 0 ≤ e) (he' : e < 256) (hf : 0 ≤ f) (hf' : f < 256) (hg : 0 ≤ g) (hg' : g < 256) (hh : 0 ≤ h) (hh' : h < 256) :
    Calls Try.prog 7 #[.agg #[.int .u8 a, .int .u8 b, .int .u8 c, .int .u8 d, .int .u8 e, .int .u8 f, .int .u8 g, .int .u8 h]] w fun e' w' => e' = .returned (decV a b c d e f g h) ∧ Below w.heap.size w w' := by
  go_enter Try.func7, Try.ntmps7
  go_wp2
  go_rounds 5
  refine bodyPost_ret (v := decV a b c d e f g h) (by simp [results, Try.results7, go_sem]) rfl ⟨rfl, ((Below.refl _ _).alloc (Nat.le_refl _) _).alloc (by simp) _⟩

theorem eq8 (a b c d e f g h : Int) (w : World) : (Op.equalIn 10000 24 (.agg #[.int .u8 a, .int .u8 b, .int .u8 c, .int .u8 d, .int .u8 e, .int .u8 f, .int .u8 g, .int .u8 h]) (.agg #[.int .u8 a, .int .u8 b, .int .u8 c, .int .u8 d, .int .u8 e, .int .u8 f, .int .u8 g, .int .u8 h])).run Try.prog w = .ok true w := by
  rw [run_equalIn_array w 9999 _ _ Try.underlying24 (i := (Try.prog.info? 5).get (by kernel_rfl)) (by kernel_rfl)]
  rw [show List.range 8 = [0,1,2,3,4,5,6,7] from rfl, show Try.prog.cellsOf 5 = 1 from by kernel_rfl]
  simp only [Op.eqItems]
  go_simp
theorem isaBytes_walk (op a b c n : Int) (x0 x1 x2 x3 x4 x5 x6 x7 : Int) (w : World) (he : 0 ≤ x4) (he' : x4 < 256) (hf : 0 ≤ x5) (hf' : x5 < 256) (hg : 0 ≤ x6) (hg' : x6 < 256) (hh : 0 ≤ x7) (hh' : x7 < 256)  :
    Calls Try.prog 3 #[.agg #[.int .u8 op, .int .u8 a, .int .u8 b, .int .u8 c, .int .i32 n], .agg #[.int .u8 x0, .int .u8 x1, .int .u8 x2, .int .u8 x3, .int .u8 x4, .int .u8 x5, .int .u8 x6, .int .u8 x7]] w fun e w' => e = .returned (.bool true) ∧ Below w.heap.size w w' := by
  go_enter Try.func3, Try.ntmps3
  go_wp2_with fail
  have E8 := fun (a b c d e f g h : Int) (w : World) => eq8 a b c d e f g h w
  have hl0 : w.heap.size < w.heap.size + 1 + 1 := by omega
  go_region_held3 (fun w' => w'.cell? ⟨w.heap.size, 0, none⟩ = some (.int .u8 op) ∧ w'.cell? ⟨w.heap.size, 1, none⟩ = some (.int .u8 a) ∧ w'.cell? ⟨w.heap.size, 2, none⟩ = some (.int .u8 b) ∧ w'.cell? ⟨w.heap.size, 3, none⟩ = some (.int .u8 c) ∧ w'.cell? ⟨w.heap.size, 4, none⟩ = some (.int .i32 n)
     ∧ w'.cell? ⟨w.heap.size + 1, 0, none⟩ = some (.int .u8 x0) ∧ w'.cell? ⟨w.heap.size + 1, 1, none⟩ = some (.int .u8 x1) ∧ w'.cell? ⟨w.heap.size + 1, 2, none⟩ = some (.int .u8 x2) ∧ w'.cell? ⟨w.heap.size + 1, 3, none⟩ = some (.int .u8 x3) ∧ w'.cell? ⟨w.heap.size + 1, 4, none⟩ = some (.int .u8 x4) ∧ w'.cell? ⟨w.heap.size + 1, 5, none⟩ = some (.int .u8 x5) ∧ w'.cell? ⟨w.heap.size + 1, 6, none⟩ = some (.int .u8 x6) ∧ w'.cell? ⟨w.heap.size + 1, 7, none⟩ = some (.int .u8 x7)) (first | go_keep | (simp (disch := omega) only [*, and_self]) | (simp [*]))
    (first | (go_at_call 4; refine (enc_isa _ _ _ _ _ _).mono ?_; rintro _ w4 ⟨rfl, hb4⟩; obtain ⟨hc4, hf4⟩ := bcell hb4; have hz4 := hb4.size; (try simp at hz4); have hy4 : w.heap.size < w4.heap.size := (by omega); have hx4 : w.heap.size + 1 < w4.heap.size := (by omega)) | (go_at_call 5; refine (enc_ref _ _ _ _ _ _).mono ?_; rintro _ w5 ⟨rfl, hb5⟩; obtain ⟨hc5, hf5⟩ := bcell hb5; have hz5 := hb5.size; (try simp at hz5); have hy5 : w.heap.size < w5.heap.size := (by omega); have hx5 : w.heap.size + 1 < w5.heap.size := (by omega))| (go_at_call 6; refine (dec_isa _ _ _ _ _ _ _ _ _ he he' hf hf' hg hg' hh hh').mono ?_; rintro _ w6 ⟨rfl, hb6⟩; obtain ⟨hc6, hf6⟩ := bcell hb6; have hz6 := hb6.size; (try simp at hz6); have hy6 : w.heap.size < w6.heap.size := (by omega); have hx6 : w.heap.size + 1 < w6.heap.size := (by omega))| (go_at_call 7; refine (dec_ref _ _ _ _ _ _ _ _ _ he he' hf hf' hg hg' hh hh').mono ?_; rintro _ w7 ⟨rfl, hb7⟩; obtain ⟨hc7, hf7⟩ := bcell hb7; have hz7 := hb7.size; (try simp at hz7); have hy7 : w.heap.size < w7.heap.size := (by omega); have hx7 : w.heap.size + 1 < w7.heap.size := (by omega)))
  go_wp2
  go_ret
  refine ⟨rfl, ?_⟩
  have hb0 : Below w.heap.size w (((w.alloc (.cells #[.int .u8 op, .int .u8 a, .int .u8 b, .int .u8 c, .int .i32 n] 23))).alloc (.cells #[.int .u8 x0, .int .u8 x1, .int .u8 x2, .int .u8 x3, .int .u8 x4, .int .u8 x5, .int .u8 x6, .int .u8 x7] 24)).drew := (((Below.refl _ _).alloc (Nat.le_refl _) _).alloc (by simp) _).drew
  exact (((hb0.trans (hb4.mono (by simp; omega))).trans (hb5.mono (by omega))).trans (hb6.mono (by omega))).trans (hb7.mono (by omega))
end Go.Proofs.Ytcbhkeinmdobhaa
