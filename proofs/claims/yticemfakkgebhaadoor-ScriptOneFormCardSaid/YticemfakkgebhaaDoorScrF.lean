import Derived.Test.YticemfakkgebhaaDoorScrO
import Derived.Test.YticemfakkgebhaaDoorScrM3
import Derived.Test.YticemfakkgebhaaDoorRows
namespace Go.Proofs.YticemfakkgebhaaDoor
open Go Go.Lift Go.RowKit L
set_option linter.unusedVariables false
set_option linter.unusedSimpArgs false

theorem gw_laid {W : World} {l : List (String × DataW Unit)} (hsh : W.ShapedOpen Tryd.prog) (hp : (l.all fun x => x.2.handleName?.isNone) = true) (h : laidMetH Tryd.prog l W) (hx : ("internal/strconv.uint64pow10", Rows.laid_internal_strconv_uint64pow10) ∈ l) : GW W := by
  refine ⟨tabIs_mem (zs := Lib.pow10Tab) (g := 0) hp h hx (by kernel_rfl) (by kernel_rfl) (t := 129) (e := 100) (n := 20) (by kernel_rfl) (by kernel_rfl) (by kernel_rfl) (by kernel_rfl), ?_⟩
  obtain ⟨m, hm⟩ := Tryd.laysM143.s1_3 W hsh
  exact ⟨m, hm⟩
theorem bytes2 : Tryd.prog.bytesOf 2 = 8 := by kernel_rfl
theorem bytes24 : Tryd.prog.bytesOf 24 = 48 := by kernel_rfl
set_option maxRecDepth 100000 in
theorem scriptMerges_any {H : Type} (enc : TypeId × Value → H) (W : World) (hsh : W.ShapedOpen Tryd.prog) {base : Nat} {v0 v1 v2 v3 : Value} {d0 d1 d2 d3 : DataW H} {p0 p1 p2 p3 : List MemPlace}
    (o0 : Value.okWide Tryd.prog W .any base 26 v0) (h0 : DataW.Trod enc Tryd.prog W 0 (fun _ => true) true 26 v0 d0 p0) (o1 : Value.okWide Tryd.prog W .any base 26 v1) (h1 : DataW.Trod enc Tryd.prog W 0 (fun _ => true) true 26 v1 d1 p1)
    (o2 : Value.okWide Tryd.prog W .any base 26 v2) (h2 : DataW.Trod enc Tryd.prog W 0 (fun _ => true) true 26 v2 d2 p2) (o3 : Value.okWide Tryd.prog W .any base 3 v3) (h3 : DataW.Trod enc Tryd.prog W 0 (fun _ => true) true 3 v3 d3 p3)
    (hsz : ∀ x ∈ DataW.weightsEach Tryd.prog [26, 26, 26, 3] [d0, d1, d2, d3], x ≤ reachBytes) (hL : laidMetH Tryd.prog Rows.scriptMergesRow.laid W) :
    Calls Tryd.prog 6 #[v0, v1, v2, v3] W fun e w' => e = .returned (.bool true) ∧ Below W.heap.size W w' := by
  have G : GW W := gw_laid hsh (by kernel_rfl) hL (by simp [Rows.scriptMergesRow])
  simp only [DataW.weightsEach, List.mem_append, List.append_nil] at hsz
  obtain ⟨x0, a0, k0, _⟩ := open_arg (n := 6) (k := .sl 24 (.pair (.int .i64) (.pair (.int .i64) (.pair (.int .i64) (.pair (.sl 2 (.int .i64)) .unit))))) (by kernel_rfl) o0 h0 (fun x hx => hsz x (.inl hx))
  obtain ⟨x1, a1, k1, _⟩ := open_arg (n := 6) (k := .sl 24 (.pair (.int .i64) (.pair (.int .i64) (.pair (.int .i64) (.pair (.sl 2 (.int .i64)) .unit))))) (by kernel_rfl) o1 h1 (fun x hx => hsz x (.inr (.inl hx)))
  obtain ⟨x2, a2, k2, _⟩ := open_arg (n := 6) (k := .sl 24 (.pair (.int .i64) (.pair (.int .i64) (.pair (.int .i64) (.pair (.sl 2 (.int .i64)) .unit))))) (by kernel_rfl) o2 h2 (fun x hx => hsz x (.inr (.inr (.inl hx))))
  obtain ⟨x3, a3, k3, _⟩ := open_arg (n := 6) (k := .int .i64) (by kernel_rfl) o3 h3 (fun x hx => hsz x (.inr (.inr (.inr hx))))
  have len : ∀ (x : List IN), okD Tryd.prog (.sl 24 (.pair (.int .i64) (.pair (.int .i64) (.pair (.int .i64) (.pair (.sl 2 (.int .i64)) .unit))))) x → x.length < 4611686018427387904 ∧ dOk x ∧ tOk x := by
    intro x hx
    have h1 : x.length * Tryd.prog.bytesOf 24 ≤ reachBytes := hx.1
    rw [bytes24] at h1
    unfold reachBytes at h1
    refine ⟨by omega, fun y hy => ?_, fun y hy => ?_⟩
    · have h2 : y.2.2.2.1.length * Tryd.prog.bytesOf 2 ≤ reachBytes := (hx.2 y hy).2.2.2.1.1
      rw [bytes2] at h2
      unfold reachBytes at h2
      omega
    · have h2 : (Lit.int .i64 y.1).wf = true := (hx.2 y hy).1
      simp [Lit.wf, IntKind.min, IntKind.max, IntKind.signed, IntKind.bits] at h2
      omega
  obtain ⟨l0, m0, t0⟩ := len x0 k0
  obtain ⟨l1, m1, t1⟩ := len x1 k1
  obtain ⟨l2, m2, t2⟩ := len x2 k2
  obtain ⟨k, hk⟩ := merges_true x0 x1 x2 x3 l0 l1 l2 m0 m1 m2 t0 t1
  exact law_calls ok6 rfl (fun w' hb => G.below hb) (vs := [v0, v1, v2, v3]) ⟨_, _, rfl, a0, _, _, rfl, a1, _, _, rfl, a2, _, _, rfl, a3, rfl, rfl⟩ hk rfl
end Go.Proofs.YticemfakkgebhaaDoor
