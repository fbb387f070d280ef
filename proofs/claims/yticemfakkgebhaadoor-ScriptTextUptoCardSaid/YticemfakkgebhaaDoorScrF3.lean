import Derived.Test.YticemfakkgebhaaDoorScrF2
import Derived.Test.YticemfakkgebhaaDoorScrT2
namespace Go.Proofs.YticemfakkgebhaaDoor
open Go Go.Lift Go.RowKit L
set_option linter.unusedVariables false
set_option linter.unusedSimpArgs false

theorem sum_ge {α : Type} (f : α → Nat) (l : List α) (h : ∀ x, 1 ≤ f x) : l.length ≤ (l.map f).sum := by
  induction l with
  | nil => exact Nat.zero_le _
  | cons a l ih =>
    have := h a
    rw [List.map_cons, List.sum_cons, List.length_cons]; omega
theorem wf64 {n : Int} (h : (Lit.int .i64 n).wf = true) : inI n := by
  simp [Lit.wf, IntKind.min, IntKind.max, IntKind.signed, IntKind.bits] at h
  unfold inI; omega
set_option maxRecDepth 100000 in
theorem scriptText_anyUpto {H : Type} (enc : TypeId × Value → H) (W : World) (hsh : W.ShapedOpen Tryd.prog) {base : Nat} {v0 v1 : Value} {d0 d1 : DataW H} {p0 p1 : List MemPlace}
    (o0 : Value.okWide Tryd.prog W .any base 26 v0) (h0 : DataW.Trod enc Tryd.prog W 0 (fun _ => true) true 26 v0 d0 p0) (o1 : Value.okWide Tryd.prog W .any base 25 v1) (h1 : DataW.Trod enc Tryd.prog W 0 (fun _ => true) true 25 v1 d1 p1)
    (hsz : ∀ x ∈ DataW.weightsEach Tryd.prog [26, 25] [d0, d1], x ≤ reachBytes) (hL : laidMetH Tryd.prog Rows.scriptTextUptoRow.laid W) (hk : Rows.uptoBulkAll [d0, d1] ≤ 1048576) :
    Calls Tryd.prog 4 #[v0, v1] W fun e w' => e = .returned (.bool true) ∧ Below W.heap.size W w' := by
  have G : GW W := gw_laid hsh (by kernel_rfl) hL (by simp [Rows.scriptTextUptoRow])
  simp only [DataW.weightsEach, List.append_nil, List.mem_append] at hsz
  obtain ⟨x0, a0, k0, m0⟩ := open_arg (n := 6) (k := .sl 24 (.pair (.int .i64) (.pair (.int .i64) (.pair (.int .i64) (.pair (.sl 2 (.int .i64)) .unit))))) (by kernel_rfl) o0 h0 (fun x hx => hsz x (.inl hx))
  obtain ⟨x1, a1, k1, m1⟩ := open_arg (n := 6) (k := .sl 5 (.int .u8)) (by kernel_rfl) o1 h1 (fun x hx => hsz x (.inr hx))
  have hb0 := m0 _ _ (bulkLaw H)
  have hb1 := m1 _ _ (bulkLaw H)
  simp only [Rows.uptoBulkAll] at hk
  have hb1 : (List.map (fun _ => 1) (x1 : List Int)).sum + 1 ≤ Rows.uptoBulk d1 := hb1
  rw [sum_ones] at hb1
  have hb0 : (List.map (bulkD (.pair (.int .i64) (.pair (.int .i64) (.pair (.int .i64) (.pair (.sl 2 (.int .i64)) .unit))))) (x0 : List IN)).sum + 1 ≤ Rows.uptoBulk d0 := hb0
  have hge := sum_ge (bulkD (.pair (.int .i64) (.pair (.int .i64) (.pair (.int .i64) (.pair (.sl 2 (.int .i64)) .unit))))) (x0 : List IN) (fun x => by simp only [bulkD]; omega)
  have hd : ∀ x ∈ (x0 : List IN), dI x := fun x hx => by
    obtain ⟨e1, e2, e3, ⟨_, e4⟩, _⟩ := k0.2 x hx
    exact ⟨wf64 e1, wf64 e3, fun n hn => wf64 (e4 n hn)⟩
  obtain ⟨k, hk⟩ := text_true x0 x1 (by omega) hd (bytes_ok k1) (by omega)
  exact law_calls ok4 rfl (fun w' hb => G.below hb) (vs := [v0, v1]) ⟨_, _, rfl, a0, _, _, rfl, a1, rfl, rfl⟩ hk rfl
end Go.Proofs.YticemfakkgebhaaDoor
