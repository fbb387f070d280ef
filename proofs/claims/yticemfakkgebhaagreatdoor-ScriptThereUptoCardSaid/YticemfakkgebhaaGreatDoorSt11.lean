import Derived.Test.YticemfakkgebhaaGreatDoorStP
import Derived.Test.YticemfakkgebhaaGreatDoorSt10
import Derived.Test.YticemfakkgebhaaGreatDoorLiftC
import Derived.Test.YticemfakkgebhaaGreatDoorRows
namespace Go.Proofs.YticemfakkgebhaaGreatDoor
open Go Go.Lift Go.RowKit L
set_option linter.unusedVariables false
set_option linter.unusedSimpArgs false

theorem gw_laid {W : World} {l : List (String × DataW Unit)} (hsh : W.ShapedOpen Tryz.prog) (hp : (l.all fun x => x.2.handleName?.isNone) = true) (h : laidMetH Tryz.prog l W) (hx : ("internal/strconv.uint64pow10", Rows.laid_internal_strconv_uint64pow10) ∈ l) : GW W := by
  refine ⟨tabIs_mem (zs := Lib.pow10Tab) (g := 0) hp h hx (by kernel_rfl) (by kernel_rfl) (t := 112) (e := 58) (n := 20) (by kernel_rfl) (by kernel_rfl) (by kernel_rfl) (by kernel_rfl), ?_⟩
  obtain ⟨m, hm⟩ := Tryz.laysM143.s1_3 W hsh
  exact ⟨m, hm⟩
theorem bytes2 : Tryz.prog.bytesOf 2 = 8 := by kernel_rfl
theorem bytes25 : Tryz.prog.bytesOf 25 = 48 := by kernel_rfl
theorem bulkLaw (H : Type) : BulkLaw (H := H) Rows.uptoBulk Rows.uptoBulkAll where
  pos d := by
    cases d <;> try (unfold Rows.uptoBulk; omega)
    rename_i l
    cases l <;> (unfold Rows.uptoBulk; omega)
  str b := by unfold Rows.uptoBulk; omega
  slice e s := by rw [Rows.uptoBulk]; omega
  agg p := by rw [Rows.uptoBulk]; omega
  cons d r := by rw [Rows.uptoBulkAll]
set_option maxRecDepth 100000 in
theorem scriptThere_any {H : Type} (enc : TypeId × Value → H) (W : World) (G : GW W) {base : Nat} {v0 : Value} {d0 : DataW H} {p0 : List MemPlace}
    (o0 : Value.okWide Tryz.prog W .any base 22 v0) (h0 : DataW.Trod enc Tryz.prog W 0 (fun _ => true) true 22 v0 d0 p0)
    (hsz : ∀ x ∈ DataW.weightsEach Tryz.prog [22] [d0], x ≤ reachBytes) :
    Calls Tryz.prog 3 #[v0] W fun e w' => e = .returned (.bool true) ∧ Below W.heap.size W w' := by
  simp only [DataW.weightsEach, List.append_nil] at hsz
  obtain ⟨x0, a0, k0, m0⟩ := open_arg (n := 6) (k := .sl 25 (.pair (.int .i64) (.pair (.int .i64) (.pair (.int .i64) (.pair (.sl 2 (.int .i64)) .unit))))) (by kernel_rfl) o0 h0 hsz
  have h1 : (x0 : List IN).length * Tryz.prog.bytesOf 25 ≤ reachBytes := k0.1
  rw [bytes25] at h1
  unfold reachBytes at h1
  have wi : ∀ z : Int, (Lit.int .i64 z).wf = true → inW z := by
    intro z h2
    simp [Lit.wf, IntKind.min, IntKind.max, IntKind.signed, IntKind.bits] at h2
    unfold inW
    omega
  have hw : wdL (x0 : List IN) := by
    intro y hy
    obtain ⟨q1, q2, q3, ⟨q4, q5⟩, _⟩ := k0.2 y hy
    have h2 : y.2.2.2.1.length * Tryz.prog.bytesOf 2 ≤ reachBytes := q4
    rw [bytes2] at h2
    unfold reachBytes at h2
    refine ⟨wi _ q1, wi _ q2, wi _ q3, fun z hz => wi _ (q5 z hz), ?_⟩
    omega
  obtain ⟨k, hk⟩ := there_true x0 hw (by omega)
  exact law_calls ok3 rfl (fun w' hb => G.below hb) (vs := [v0]) ⟨_, _, rfl, a0, rfl, rfl⟩ hk rfl
set_option maxRecDepth 100000 in
theorem scriptThere_anyUpto {H : Type} (enc : TypeId × Value → H) (W : World) (hsh : W.ShapedOpen Tryz.prog) {base : Nat} {v0 : Value} {d0 : DataW H} {p0 : List MemPlace}
    (o0 : Value.okWide Tryz.prog W .any base 22 v0) (h0 : DataW.Trod enc Tryz.prog W 0 (fun _ => true) true 22 v0 d0 p0)
    (hsz : ∀ x ∈ DataW.weightsEach Tryz.prog [22] [d0], x ≤ reachBytes) (hL : laidMetH Tryz.prog Rows.scriptThereUptoRow.laid W) (_ : Rows.uptoBulkAll [d0] ≤ 1048576) :
    Calls Tryz.prog 3 #[v0] W fun e w' => e = .returned (.bool true) ∧ Below W.heap.size W w' :=
  scriptThere_any enc W (gw_laid hsh (by kernel_rfl) hL (by simp [Rows.scriptThereUptoRow])) o0 h0 hsz
end Go.Proofs.YticemfakkgebhaaGreatDoor
