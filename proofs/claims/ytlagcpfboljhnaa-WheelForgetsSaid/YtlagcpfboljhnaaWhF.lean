import Derived.Test.YtlagcpfboljhnaaWhM13
import Derived.Test.YtlagcpfboljhnaaWhO
import Derived.Test.YtlagcpfboljhnaaLiftD
import Derived.Test.YtlagcpfboljhnaaRows
namespace Go.Proofs.Ytlagcpfboljhnaa
open Go Go.Lift Go.RowKit L
set_option linter.unusedVariables false
set_option linter.unusedSimpArgs false
set_option maxRecDepth 100000
theorem bytes34 : Try.prog.bytesOf 34 = 16 := by kernel_rfl
theorem bytes3 : Try.prog.bytesOf 3 = 8 := by kernel_rfl
theorem len34 {x : List I2} (h : okD Try.prog (.sl 34 kI2) x) : x.length < 4611686018427387904 := by
  have h1 : x.length * Try.prog.bytesOf 34 ≤ reachBytes := h.1
  rw [bytes34] at h1
  unfold reachBytes at h1
  omega
theorem len3 {x : List Int} (h : okD Try.prog (.sl 3 (.int .i64)) x) : x.length < 4611686018427387904 := by
  have h1 : x.length * Try.prog.bytesOf 3 ≤ reachBytes := h.1
  rw [bytes3] at h1
  unfold reachBytes at h1
  omega
theorem wheelFires_any {H : Type} (enc : TypeId × Value → H) (W : World) {base : Nat} {v0 v1 v2 : Value} {d0 d1 d2 : DataW H} {p0 p1 p2 : List MemPlace}
    (o0 : Value.okWide Try.prog W .any base 3 v0) (h0 : DataW.Trod enc Try.prog W 0 (fun _ => true) true 3 v0 d0 p0) (o1 : Value.okWide Try.prog W .any base 22 v1) (h1 : DataW.Trod enc Try.prog W 0 (fun _ => true) true 22 v1 d1 p1)
    (o2 : Value.okWide Try.prog W .any base 23 v2) (h2 : DataW.Trod enc Try.prog W 0 (fun _ => true) true 23 v2 d2 p2)
    (hsz : ∀ x ∈ DataW.weightsEach Try.prog [3, 22, 23] [d0, d1, d2], x ≤ reachBytes) (hL : laidMetH Try.prog Rows.wheelFiresRow.laid W) :
    Calls Try.prog 3 #[v0, v1, v2] W fun e w' => e = .returned (.bool true) ∧ Below W.heap.size W w' := by
  simp only [DataW.weightsEach, List.append_nil, List.mem_append] at hsz
  obtain ⟨x0, a0, k0, _⟩ := open_arg (n := 6) (k := .int .i64) (by kernel_rfl) o0 h0 (fun x hx => hsz x (.inl hx))
  obtain ⟨x1, a1, k1, _⟩ := open_arg (n := 8) (k := .sl 34 kI2) (by kernel_rfl) o1 h1 (fun x hx => hsz x (.inr (.inl hx)))
  obtain ⟨x2, a2, k2, _⟩ := open_arg (n := 6) (k := .sl 3 (.int .i64)) (by kernel_rfl) o2 h2 (fun x hx => hsz x (.inr (.inr hx)))
  exact law_calls ok3 rfl (fun w' hb => trivial) (vs := [v0, v1, v2]) ⟨_, _, rfl, a0, _, _, rfl, a1, _, _, rfl, a2, rfl, rfl⟩ (fires_true x0 x1 (len34 k1) x2 (len3 k2) _ (Nat.le_refl _)) rfl
theorem wheelForgets_any {H : Type} (enc : TypeId × Value → H) (W : World) {base : Nat} {v0 v1 v2 v3 v4 : Value} {d0 d1 d2 d3 d4 : DataW H} {p0 p1 p2 p3 p4 : List MemPlace}
    (o0 : Value.okWide Try.prog W .any base 3 v0) (h0 : DataW.Trod enc Try.prog W 0 (fun _ => true) true 3 v0 d0 p0) (o1 : Value.okWide Try.prog W .any base 22 v1) (h1 : DataW.Trod enc Try.prog W 0 (fun _ => true) true 22 v1 d1 p1)
    (o2 : Value.okWide Try.prog W .any base 3 v2) (h2 : DataW.Trod enc Try.prog W 0 (fun _ => true) true 3 v2 d2 p2) (o3 : Value.okWide Try.prog W .any base 3 v3) (h3 : DataW.Trod enc Try.prog W 0 (fun _ => true) true 3 v3 d3 p3)
    (o4 : Value.okWide Try.prog W .any base 4 v4) (h4 : DataW.Trod enc Try.prog W 0 (fun _ => true) true 4 v4 d4 p4)
    (hsz : ∀ x ∈ DataW.weightsEach Try.prog [3, 22, 3, 3, 4] [d0, d1, d2, d3, d4], x ≤ reachBytes) (hL : laidMetH Try.prog Rows.wheelForgetsRow.laid W) :
    Calls Try.prog 4 #[v0, v1, v2, v3, v4] W fun e w' => e = .returned (.bool true) ∧ Below W.heap.size W w' := by
  simp only [DataW.weightsEach, List.append_nil, List.mem_append] at hsz
  obtain ⟨x0, a0, k0, _⟩ := open_arg (n := 6) (k := .int .i64) (by kernel_rfl) o0 h0 (fun x hx => hsz x (.inl hx))
  obtain ⟨x1, a1, k1, _⟩ := open_arg (n := 8) (k := .sl 34 kI2) (by kernel_rfl) o1 h1 (fun x hx => hsz x (.inr (.inl hx)))
  obtain ⟨x2, a2, k2, _⟩ := open_arg (n := 6) (k := .int .i64) (by kernel_rfl) o2 h2 (fun x hx => hsz x (.inr (.inr (.inl hx))))
  obtain ⟨x3, a3, k3, _⟩ := open_arg (n := 6) (k := .int .i64) (by kernel_rfl) o3 h3 (fun x hx => hsz x (.inr (.inr (.inr (.inl hx)))))
  obtain ⟨x4, a4, k4, _⟩ := open_arg (n := 6) (k := .bool) (by kernel_rfl) o4 h4 (fun x hx => hsz x (.inr (.inr (.inr (.inr hx)))))
  exact law_calls ok4 rfl (fun w' hb => trivial) (vs := [v0, v1, v2, v3, v4]) ⟨_, _, rfl, a0, _, _, rfl, a1, _, _, rfl, a2, _, _, rfl, a3, _, _, rfl, a4, rfl, rfl⟩ (forgets_true x0 x1 (len34 k1) x2 x3 x4 _ (Nat.le_refl _)) rfl
end Go.Proofs.Ytlagcpfboljhnaa
