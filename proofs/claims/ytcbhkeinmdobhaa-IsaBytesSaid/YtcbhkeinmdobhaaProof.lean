/-
  Encode of any instruction is the document's eight bytes, and Decode of any eight bytes is the document's instruction (the statement IsaBytes, layer 3). No condition.
-/
import Derived.Test.YtcbhkeinmdobhaaW1
import Derived.OpenShut
import Derived.ShutString
import Derived.ChangeOld
import Derived.Lib.SmallJoins
namespace Go.Proofs.Ytcbhkeinmdobhaa
open Go.ChangeShapes Go.WideShapes Go.ChangeAt Go.RowKit
set_option linter.unusedVariables false
set_option linter.unusedSimpArgs false

theorem own : ownKnob Try.prog.godebug = none := by kernel_rfl
theorem laidOut : laidOutB Try.prog = true := by kernel_rfl

section
variable {H : Type} {enc : TypeId × Value → H} {w : World} {base : Nat} {spare : Nat → Bool} {held : Bool}

theorem open_instr {r : Reach} {b0 : Nat} {v : Value} {d : DataW H} {p : List MemPlace} (hv : Value.okWide Try.prog w r b0 23 v) (h : DataW.Trod enc Try.prog w base spare held 23 v d p) :
    ∃ o a b c n : Int, v = .agg #[.int .u8 o, .int .u8 a, .int .u8 b, .int .u8 c, .int .i32 n] := by
  obtain ⟨cs, rfl, hsz⟩ := okWide_struct Try.underlying23 hv
  obtain ⟨l⟩ := cs
  have hC : Try.prog.cellsOf 23 = 5 := by kernel_rfl
  match l, hsz.trans hC with
  | [c0, c1, c2, c3, c4], _ =>
    obtain ⟨fuel, hf⟩ := h
    obtain ⟨xs, n, _, hx, _, hlen, hg⟩ := DataW.trod_struct Try.underlying23 hf
    have k5 : Try.prog.cellsOf 5 = 1 := by kernel_rfl
    have k21 : Try.prog.cellsOf 21 = 1 := by kernel_rfl
    match xs, hlen with
    | [y0, y1, y2, y3, y4], _ =>
      have g0 := hg 0 _ rfl
      have g1 := hg 1 _ rfl
      have g2 := hg 2 _ rfl
      have g3 := hg 3 _ rfl
      have g4 := hg 4 _ rfl
      simp [Value.cells, k5, k21] at g0 g1 g2 g3 g4
      obtain ⟨o, e0, _, _⟩ := DataW.trod_int Try.underlying5 g0
      obtain ⟨a, e1, _, _⟩ := DataW.trod_int Try.underlying5 g1
      obtain ⟨b, e2, _, _⟩ := DataW.trod_int Try.underlying5 g2
      obtain ⟨c, e3, _, _⟩ := DataW.trod_int Try.underlying5 g3
      obtain ⟨n, e4, _, _⟩ := DataW.trod_int Try.underlying21 g4
      simp at e0 e1 e2 e3 e4
      subst e0 e1 e2 e3 e4
      exact ⟨o, a, b, c, n, rfl⟩

theorem okWide_eight {r : Reach} {b0 : Nat} {v : Value} (hv : Value.okWide Try.prog w r b0 24 v) : ∃ cs : Array Value, v = .agg cs ∧ cs.size = 8 := by
  simp only [Value.okWide, Try.underlying24] at hv
  obtain ⟨cs, h1, h2, _⟩ := hv
  exact ⟨cs, h1, h2.trans (by kernel_rfl)⟩

theorem byte_of {n : Int} (h : (Lit.int .u8 n).wf = true) : 0 ≤ n ∧ n < 256 := by
  have := bounds_u8 h
  omega

theorem open_eight {r : Reach} {b0 : Nat} {v : Value} {d : DataW H} {p : List MemPlace} (hv : Value.okWide Try.prog w r b0 24 v) (h : DataW.Trod enc Try.prog w base spare held 24 v d p) :
    ∃ x0 x1 x2 x3 x4 x5 x6 x7 : Int, v = .agg #[.int .u8 x0, .int .u8 x1, .int .u8 x2, .int .u8 x3, .int .u8 x4, .int .u8 x5, .int .u8 x6, .int .u8 x7] ∧ 0 ≤ x4 ∧ x4 < 256 ∧ 0 ≤ x5 ∧ x5 < 256 ∧ 0 ≤ x6 ∧ x6 < 256 ∧ 0 ≤ x7 ∧ x7 < 256 := by
  obtain ⟨cs, rfl, hsz⟩ := okWide_eight hv
  obtain ⟨l⟩ := cs
  match l, hsz with
  | [c0, c1, c2, c3, c4, c5, c6, c7], _ =>
    obtain ⟨fuel, hf⟩ := h
    obtain ⟨xs, n, _, hx, _, hlen, hg⟩ := DataW.trod_array Try.underlying24 hf
    have k5 : Try.prog.cellsOf 5 = 1 := by kernel_rfl
    match xs, hlen with
    | [y0, y1, y2, y3, y4, y5, y6, y7], _ =>
      have g0 := hg 0 (by omega)
      have g1 := hg 1 (by omega)
      have g2 := hg 2 (by omega)
      have g3 := hg 3 (by omega)
      have g4 := hg 4 (by omega)
      have g5 := hg 5 (by omega)
      have g6 := hg 6 (by omega)
      have g7 := hg 7 (by omega)
      simp [Value.cells, k5] at g0 g1 g2 g3 g4 g5 g6 g7
      obtain ⟨x0, e0, _, _⟩ := DataW.trod_int Try.underlying5 g0
      obtain ⟨x1, e1, _, _⟩ := DataW.trod_int Try.underlying5 g1
      obtain ⟨x2, e2, _, _⟩ := DataW.trod_int Try.underlying5 g2
      obtain ⟨x3, e3, _, _⟩ := DataW.trod_int Try.underlying5 g3
      obtain ⟨x4, e4, _, w4⟩ := DataW.trod_int Try.underlying5 g4
      obtain ⟨x5, e5, _, w5⟩ := DataW.trod_int Try.underlying5 g5
      obtain ⟨x6, e6, _, w6⟩ := DataW.trod_int Try.underlying5 g6
      obtain ⟨x7, e7, _, w7⟩ := DataW.trod_int Try.underlying5 g7
      simp at e0 e1 e2 e3 e4 e5 e6 e7
      subst e0 e1 e2 e3 e4 e5 e6 e7
      have b4 := byte_of w4
      have b5 := byte_of w5
      have b6 := byte_of w6
      have b7 := byte_of w7
      exact ⟨x0, x1, x2, x3, x4, x5, x6, x7, rfl, b4.1, b4.2, b5.1, b5.2, b6.1, b6.2, b7.1, b7.2⟩
end

set_option maxRecDepth 100000 in
theorem lifted (os : Os) (started : os.Started) (H : Type) (enc : TypeId × Value → H) :
    ReturnsInHanded {} Try.checked os 3 .any (Rows.isaBytesSpec.pre6 enc Try.prog Try.f3 Rows.isaBytesRow.domain false) (Rows.isaBytesSpec.post enc Try.prog Try.f3 false true false false) := by
  refine returnsInHanded_of_change (C := Try.checked) own started (by kernel_rfl) Try.func3
    (ChangeSpec.witness6 (enc := enc) (C := Try.checked) false ⟨#[], #[.agg #[.int .u8 0, .int .u8 0, .int .u8 0, .int .u8 0, .int .i32 0], .agg #[.int .u8 0, .int .u8 0, .int .u8 0, .int .u8 0, .int .u8 0, .int .u8 0, .int .u8 0, .int .u8 0]], []⟩ 8 (by kernel_rfl) (by kernel_rfl) (by kernel_rfl) (by kernel_rfl)) ?_
  intro W base args ds gs before hval0 hW hcnd _
  have hval : ∀ (j : Nat) t v, Try.f3.params[j]? = some t → args[j]? = some v → Value.okWide Try.prog W .any base t v := hval0
  have hW' := hW
  obtain ⟨p, q, hA0, hV, rfl, hfz, hnd⟩ := hW
  have hA : DataW.TrodAll enc Try.prog W 0 (fun _ => true) true Try.f3.params.toList args.toList ds p := hA0
  rw [Try.params3] at hA hval
  obtain ⟨v0, vs0, d0, ds0, p0, q0, hargs, rfl, rfl, h0, r0⟩ := trodAll_cons hA
  obtain ⟨v1, vs1, d1, ds1, p1, q1, rfl, rfl, rfl, h1, r1⟩ := trodAll_cons r0
  obtain ⟨rfl, rfl, rfl⟩ := trodAll_nil r1
  obtain rfl : args = #[v0, v1] := by cases args; simp_all
  obtain ⟨rfl, rfl⟩ := trodVars_none hV
  have k0 := h0
  have lt0 : ∀ x ∈ p0, x.block < W.heap.size := by obtain ⟨m, hm⟩ := k0; exact DataW.trod_lt m _ _ _ hm
  have k1 := h1
  have lt1 : ∀ x ∈ p1, x.block < W.heap.size := by obtain ⟨m, hm⟩ := k1; exact DataW.trod_lt m _ _ _ hm
  obtain ⟨o, a, b, c, n, rfl⟩ := open_instr (hval 0 23 v0 rfl rfl) h0
  obtain ⟨x0, x1, x2, x3, x4, x5, x6, x7, rfl, b4, c4, b5, c5, b6, c6, b7, c7⟩ := open_eight (hval 1 24 v1 rfl rfl) h1
  clear hA0 hval0
  refine (isaBytes_walk o a b c n x0 x1 x2 x3 x4 x5 x6 x7 W b4 c4 b5 c5 b6 c6 b7 c7).mono fun e W' ⟨he, bel⟩ => ?_
  subst he
  exact ⟨_, rfl, _, _, _, [], _, [], hW', trodAll_mk1 (shut_bool Try.underlying4 _), (trodAll_cons_mk (Below.trod laidOut (by kernel_rfl) (of_decide_eq_true (by kernel_rfl)) k0 bel lt0) (trodAll_cons_mk (Below.trod laidOut (by kernel_rfl) (of_decide_eq_true (by kernel_rfl)) k1 bel lt1) trodAll_mk0)), rfl, bel.frame _, fun h => by cases h⟩

theorem proved : Rows.IsaBytesSaid :=
  OpenClaim.holds_of_wide 3 Try.f3 rfl rfl rfl rfl rfl rfl rfl ⟨rfl, rfl, rfl, rfl, rfl⟩ rfl rfl rfl rfl rfl (by kernel_rfl) Try.func3 (by kernel_rfl)
    (of_decide_eq_true (by kernel_rfl)) (by unfold Func.isWrapper; first | (rw [if_pos (by decide +kernel)]; kernel_rfl) | (rw [if_neg (by decide +kernel)]; exact ⟨rfl, rfl⟩))
    (fun os started H enc _ => lifted os started H enc)
#print axioms proved
end Go.Proofs.Ytcbhkeinmdobhaa
