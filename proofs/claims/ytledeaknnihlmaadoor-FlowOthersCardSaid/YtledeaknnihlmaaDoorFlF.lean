import Derived.Test.YtledeaknnihlmaaDoorFlO
import Derived.Test.YtledeaknnihlmaaDoorFlM4
import Derived.Test.YtledeaknnihlmaaDoorRows
namespace Go.Proofs.YtledeaknnihlmaaDoor
open Go Go.Lift Go.RowKit L
set_option linter.unusedVariables false
set_option linter.unusedSimpArgs false

theorem gw_laid {W : World} {l : List (String × DataW Unit)} (hp : (l.all fun x => x.2.handleName?.isNone) = true) (h : laidMetH Tryd.prog l W) (hx : ("internal/strconv.uint64pow10", Rows.laid_internal_strconv_uint64pow10) ∈ l) : GW W :=
  ⟨tabIs_mem (zs := Lib.pow10Tab) (g := 0) hp h hx (by kernel_rfl) (by kernel_rfl) (t := 142) (e := 128) (n := 20) (by kernel_rfl) (by kernel_rfl) (by kernel_rfl) (by kernel_rfl)⟩
set_option maxRecDepth 100000 in
theorem flowPaths_any {H : Type} (enc : TypeId × Value → H) (W : World) {base : Nat} {v0 v1 : Value} {d0 d1 : DataW H} {p0 p1 : List MemPlace}
    (o0 : Value.okWide Tryd.prog W .any base 26 v0) (h0 : DataW.Trod enc Tryd.prog W 0 (fun _ => true) true 26 v0 d0 p0) (o1 : Value.okWide Tryd.prog W .any base 3 v1) (h1 : DataW.Trod enc Tryd.prog W 0 (fun _ => true) true 3 v1 d1 p1)
    (hsz : ∀ x ∈ DataW.weightsEach Tryd.prog [26, 3] [d0, d1], x ≤ reachBytes) (hL : laidMetH Tryd.prog Rows.flowPathsRow.laid W) :
    Calls Tryd.prog 4 #[v0, v1] W fun e w' => e = .returned (.bool true) ∧ Below W.heap.size W w' := by
  have G : GW W := gw_laid (by kernel_rfl) hL (by simp [Rows.flowPathsRow])
  simp only [DataW.weightsEach, List.mem_append, List.append_nil] at hsz
  obtain ⟨x0, a0, k0, _⟩ := open_arg (n := 12) (k := (.pair (.sl 55 (.pair (.pair (.int .i64) (.pair (.int .i64) (.pair (.int .i64) (.pair (.int .i64) .unit)))) (.pair (.int .i64) (.pair (.int .i64) (.pair (.sl 2 (.int .i64)) (.pair (.sl 57 (.pair (.int .u8) (.pair (.int .u8) (.pair (.int .u8) (.pair (.int .u8) (.pair (.int .i32) .unit)))))) (.pair (.sl 94 (.pair (.int .i64) (.pair (.int .i64) (.pair (.int .i64) (.pair (.int .i64) (.pair (.int .i64) (.pair .bool .unit))))))) (.pair (.int .i64) (.pair (.arr 8 (.int .i64)) (.pair (.sl 96 (.pair (.int .i64) (.pair (.int .i64) .unit))) (.pair (.sl 4 .bool) (.pair (.sl 98 (.pair (.int .i64) (.pair (.int .i64) .unit))) .unit)))))))))))) (.pair (.sl 65 (.pair (.int .i64) (.pair (.int .i64) (.pair .bool (.pair (.int .i64) (.pair (.int .i64) (.pair (.int .i64) .unit))))))) (.pair (.sl 62 (.pair (.int .i64) (.pair (.int .i64) (.pair (.sl 3 (.int .i64)) (.pair (.int .i64) (.pair (.int .i64) .unit)))))) .unit)))) (by kernel_rfl) o0 h0 (fun x hx => hsz x (.inl hx))
  obtain ⟨x1, a1, k1, _⟩ := open_arg (n := 6) (k := .int .i64) (by kernel_rfl) o1 h1 (fun x hx => hsz x (.inr hx))
  obtain ⟨k, hk⟩ := paths_true x0 x1
  exact law_calls ok4 rfl (fun w' hb => G.below hb) (vs := [v0, v1]) ⟨_, _, rfl, a0, _, _, rfl, a1, rfl, rfl⟩ hk rfl
end Go.Proofs.YtledeaknnihlmaaDoor
