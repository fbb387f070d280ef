import Derived.Test.YticemfakkgebhaaDoorScrF
import Derived.Test.YticemfakkgebhaaDoorScrR3
namespace Go.Proofs.YticemfakkgebhaaDoor
open Go Go.Lift Go.RowKit L
set_option linter.unusedVariables false
set_option linter.unusedSimpArgs false

theorem bulkLaw (H : Type) : BulkLaw (H := H) Rows.uptoBulk Rows.uptoBulkAll where
  pos d := by
    cases d <;> try (unfold Rows.uptoBulk; omega)
    rename_i l
    cases l <;> (unfold Rows.uptoBulk; omega)
  str b := by unfold Rows.uptoBulk; omega
  slice e s := by rw [Rows.uptoBulk]; omega
  agg p := by rw [Rows.uptoBulk]; omega
  cons d r := by rw [Rows.uptoBulkAll]
theorem sum_ones {α : Type} (l : List α) : (l.map fun _ => 1).sum = l.length := by
  induction l with
  | nil => rfl
  | cons a l ih => rw [List.map_cons, List.sum_cons, ih, List.length_cons]; omega
theorem bytes_ok {x : List Int} (h : okD Tryd.prog (.sl 5 (.int .u8)) x) : byteL x = true := by
  unfold byteL
  rw [List.all_eq_true]
  intro a ha
  have h2 : (Lit.int .u8 a).wf = true := h.2 a ha
  simp [Lit.wf, IntKind.min, IntKind.max, IntKind.signed, IntKind.bits] at h2
  simp only [Bool.and_eq_true, decide_eq_true_eq]
  omega
set_option maxRecDepth 100000 in
theorem scriptReads_anyUpto {H : Type} (enc : TypeId × Value → H) (W : World) (hsh : W.ShapedOpen Tryd.prog) {base : Nat} {v0 : Value} {d0 : DataW H} {p0 : List MemPlace}
    (o0 : Value.okWide Tryd.prog W .any base 25 v0) (h0 : DataW.Trod enc Tryd.prog W 0 (fun _ => true) true 25 v0 d0 p0)
    (hsz : ∀ x ∈ DataW.weightsEach Tryd.prog [25] [d0], x ≤ reachBytes) (hL : laidMetH Tryd.prog Rows.scriptReadsUptoRow.laid W) (hk : Rows.uptoBulkAll [d0] ≤ 1048576) :
    Calls Tryd.prog 5 #[v0] W fun e w' => e = .returned (.bool true) ∧ Below W.heap.size W w' := by
  have G : GW W := gw_laid hsh (by kernel_rfl) hL (by simp [Rows.scriptReadsUptoRow])
  simp only [DataW.weightsEach, List.append_nil] at hsz
  obtain ⟨x0, a0, k0, m0⟩ := open_arg (n := 6) (k := .sl 5 (.int .u8)) (by kernel_rfl) o0 h0 hsz
  have hb := m0 _ _ (bulkLaw H)
  simp only [Rows.uptoBulkAll] at hk
  have hb : (List.map (fun _ => 1) (x0 : List Int)).sum + 1 ≤ Rows.uptoBulk d0 := hb
  rw [sum_ones] at hb
  obtain ⟨k, hk⟩ := reads_true x0 (bytes_ok k0) (by omega)
  exact law_calls ok5 rfl (fun w' hb => G.below hb) (vs := [v0]) ⟨_, _, rfl, a0, rfl, rfl⟩ hk rfl
end Go.Proofs.YticemfakkgebhaaDoor
