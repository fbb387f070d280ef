import Derived.Test.YtcbhkeinmdobhaaDoorBk
import Derived.OpenShut
import Derived.ShutString
import Derived.ChangeOld
import Derived.Lib.SmallJoins
namespace Go.Proofs.YtcbhkeinmdobhaaDoor
open Go.ChangeShapes Go.WideShapes Go.ChangeAt Go.RowKit
set_option linter.unusedVariables false
set_option linter.unusedSimpArgs false
set_option maxRecDepth 100000

section
variable {H : Type} {enc : TypeId × Value → H} {w : World} {base : Nat} {spare : Nat → Bool} {held : Bool}

theorem byte_of {n : Int} (h : (Lit.int .u8 n).wf = true) : 0 ≤ n ∧ n < 256 := by
  have := bounds_u8 h
  omega

theorem open_instr {r : Reach} {b0 : Nat} {v : Value} {d : DataW H} {p : List MemPlace} (hv : Value.okWide Tryd.prog w r b0 26 v) (h : DataW.Trod enc Tryd.prog w base spare held 26 v d p) :
    ∃ o a b c n : Int, v = .agg #[.int .u8 o, .int .u8 a, .int .u8 b, .int .u8 c, .int .i32 n] ∧ (0 ≤ o ∧ o < 256) ∧ (0 ≤ a ∧ a < 256) ∧ (0 ≤ b ∧ b < 256) ∧ (0 ≤ c ∧ c < 256) ∧ -2147483648 ≤ n ∧ n ≤ 2147483647 := by
  obtain ⟨cs, rfl, hsz⟩ := okWide_struct Tryd.underlying26 hv
  obtain ⟨l⟩ := cs
  have hC : Tryd.prog.cellsOf 26 = 5 := by kernel_rfl
  match l, hsz.trans hC with
  | [c0, c1, c2, c3, c4], _ =>
    obtain ⟨fuel, hf⟩ := h
    obtain ⟨xs, n, _, hx, _, hlen, hg⟩ := DataW.trod_struct Tryd.underlying26 hf
    have k5 : Tryd.prog.cellsOf 5 = 1 := by kernel_rfl
    have k21 : Tryd.prog.cellsOf 21 = 1 := by kernel_rfl
    match xs, hlen with
    | [y0, y1, y2, y3, y4], _ =>
      have g0 := hg 0 _ rfl
      have g1 := hg 1 _ rfl
      have g2 := hg 2 _ rfl
      have g3 := hg 3 _ rfl
      have g4 := hg 4 _ rfl
      simp [Value.cells, k5, k21] at g0 g1 g2 g3 g4
      obtain ⟨o, e0, _, W0⟩ := DataW.trod_int Tryd.underlying5 g0
      obtain ⟨a, e1, _, W1⟩ := DataW.trod_int Tryd.underlying5 g1
      obtain ⟨b, e2, _, W2⟩ := DataW.trod_int Tryd.underlying5 g2
      obtain ⟨c, e3, _, W3⟩ := DataW.trod_int Tryd.underlying5 g3
      obtain ⟨n, e4, _, W4⟩ := DataW.trod_int Tryd.underlying21 g4
      simp at e0 e1 e2 e3 e4
      subst e0 e1 e2 e3 e4
      have B4 := bounds_i32 W4
      exact ⟨o, a, b, c, n, rfl, byte_of W0, byte_of W1, byte_of W2, byte_of W3, by omega, by omega⟩

theorem okWide_eight {r : Reach} {b0 : Nat} {v : Value} (hv : Value.okWide Tryd.prog w r b0 27 v) : ∃ cs : Array Value, v = .agg cs ∧ cs.size = 8 := by
  simp only [Value.okWide, Tryd.underlying27] at hv
  obtain ⟨cs, h1, h2, _⟩ := hv
  exact ⟨cs, h1, h2.trans (by kernel_rfl)⟩

theorem open_eight {r : Reach} {b0 : Nat} {v : Value} {d : DataW H} {p : List MemPlace} (hv : Value.okWide Tryd.prog w r b0 27 v) (h : DataW.Trod enc Tryd.prog w base spare held 27 v d p) :
    ∃ x0 x1 x2 x3 x4 x5 x6 x7 : Int, v = .agg #[.int .u8 x0, .int .u8 x1, .int .u8 x2, .int .u8 x3, .int .u8 x4, .int .u8 x5, .int .u8 x6, .int .u8 x7] ∧ 0 ≤ x4 ∧ x4 < 256 ∧ 0 ≤ x5 ∧ x5 < 256 ∧ 0 ≤ x6 ∧ x6 < 256 ∧ 0 ≤ x7 ∧ x7 < 256 := by
  obtain ⟨cs, rfl, hsz⟩ := okWide_eight hv
  obtain ⟨l⟩ := cs
  match l, hsz with
  | [c0, c1, c2, c3, c4, c5, c6, c7], _ =>
    obtain ⟨fuel, hf⟩ := h
    obtain ⟨xs, n, _, hx, _, hlen, hg⟩ := DataW.trod_array Tryd.underlying27 hf
    have k5 : Tryd.prog.cellsOf 5 = 1 := by kernel_rfl
    match xs, hlen with
    | [y0, y1, y2, y3, y4, y5, y6, y7], _ =>
      have g0 := hg 0 (by omega)
      have g1 := hg 1 (by omega)
      have g2 := hg 2 (by omega)
      have g3 := hg 3 (by omega)
      have g4 := hg 4 (by omega)
      have g5 := hg 5 (by omega)
      have g6 := hg 6 (by omega)
      have g7 := hg 7 (by omega)
      simp [Value.cells, k5] at g0 g1 g2 g3 g4 g5 g6 g7
      obtain ⟨x0, e0, _, _⟩ := DataW.trod_int Tryd.underlying5 g0
      obtain ⟨x1, e1, _, _⟩ := DataW.trod_int Tryd.underlying5 g1
      obtain ⟨x2, e2, _, _⟩ := DataW.trod_int Tryd.underlying5 g2
      obtain ⟨x3, e3, _, _⟩ := DataW.trod_int Tryd.underlying5 g3
      obtain ⟨x4, e4, _, w4⟩ := DataW.trod_int Tryd.underlying5 g4
      obtain ⟨x5, e5, _, w5⟩ := DataW.trod_int Tryd.underlying5 g5
      obtain ⟨x6, e6, _, w6⟩ := DataW.trod_int Tryd.underlying5 g6
      obtain ⟨x7, e7, _, w7⟩ := DataW.trod_int Tryd.underlying5 g7
      simp at e0 e1 e2 e3 e4 e5 e6 e7
      subst e0 e1 e2 e3 e4 e5 e6 e7
      have b4 := byte_of w4
      have b5 := byte_of w5
      have b6 := byte_of w6
      have b7 := byte_of w7
      exact ⟨x0, x1, x2, x3, x4, x5, x6, x7, rfl, b4.1, b4.2, b5.1, b5.2, b6.1, b6.2, b7.1, b7.2⟩
end

set_option maxRecDepth 100000 in
theorem isaBack_any {H : Type} (enc : TypeId × Value → H) (W : World) {base : Nat} {v0 v1 : Value} {d0 d1 : DataW H} {p0 p1 : List MemPlace} (o0 : Value.okWide Tryd.prog W .any base 26 v0) (h0 : DataW.Trod enc Tryd.prog W 0 (fun _ => true) true 26 v0 d0 p0)
    (o1 : Value.okWide Tryd.prog W .any base 27 v1) (h1 : DataW.Trod enc Tryd.prog W 0 (fun _ => true) true 27 v1 d1 p1)
    (hsz : ∀ x ∈ DataW.weightsEach Tryd.prog [26, 27] [d0, d1], x ≤ reachBytes) (hL : laidMetH Tryd.prog Rows.isaBackRow.laid W) :
    Calls Tryd.prog 4 #[v0, v1] W fun e w' => e = .returned (.bool true) ∧ Below W.heap.size W w' := by
  obtain ⟨o, a, b, c, n, rfl, _, _, _, _, hn0, hn1⟩ := open_instr o0 h0
  obtain ⟨x0, x1, x2, x3, x4, x5, x6, x7, rfl, a4, b4, a5, b5, a6, b6, a7, b7⟩ := open_eight o1 h1
  exact isaBack_walk o a b c n x0 x1 x2 x3 x4 x5 x6 x7 W (tabs_laid (by kernel_rfl) hL (by simp [Rows.isaBackRow]) (by simp [Rows.isaBackRow])) hn0 hn1 a4 b4 a5 b5 a6 b6 a7 b7
end Go.Proofs.YtcbhkeinmdobhaaDoor
