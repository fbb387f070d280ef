import Derived.Test.YtledeaknnihlmaaDoorFlP
import Derived.Test.YtledeaknnihlmaaDoorFlN3
import Derived.Test.YtledeaknnihlmaaDoorFlF
namespace Go.Proofs.YtledeaknnihlmaaDoor
open Go Go.Lift Go.RowKit L
set_option linter.unusedVariables false
set_option linter.unusedSimpArgs false

theorem bytes2 : Tryd.prog.bytesOf 2 = 8 := by kernel_rfl
theorem bytes57 : Tryd.prog.bytesOf 57 = 8 := by kernel_rfl
theorem bytes94 : Tryd.prog.bytesOf 94 = 48 := by kernel_rfl
theorem bytes96 : Tryd.prog.bytesOf 96 = 16 := by kernel_rfl
theorem bytes4 : Tryd.prog.bytesOf 4 = 1 := by kernel_rfl
theorem bytes98 : Tryd.prog.bytesOf 98 = 16 := by kernel_rfl
def psz (p : PA) : Nat := p.2.2.2.1.length + p.2.2.2.2.1.length + p.2.2.2.2.2.1.length + p.2.2.2.2.2.2.2.2.1.length + p.2.2.2.2.2.2.2.2.2.1.length + p.2.2.2.2.2.2.2.2.2.2.1.length
theorem psz_bound : ∀ l : List PA, ∃ k, 100 ≤ k ∧ ∀ p ∈ l, psz p < k
  | [] => ⟨100, Nat.le_refl _, by simp⟩
  | p :: l => by
    obtain ⟨k, h1, h2⟩ := psz_bound l
    refine ⟨k + psz p + 1, by omega, fun q hq => ?_⟩
    rcases List.mem_cons.1 hq with rfl | hq
    · omega
    · have := h2 q hq; omega
set_option maxRecDepth 100000 in
theorem pb_of {k : Nat} {p : PA} (hk : psz p < k) (h : okD Tryd.prog (.pair (.pair (.int .i64) (.pair (.int .i64) (.pair (.int .i64) (.pair (.int .i64) .unit)))) (.pair (.int .i64) (.pair (.int .i64) (.pair (.sl 2 (.int .i64)) (.pair (.sl 57 (.pair (.int .u8) (.pair (.int .u8) (.pair (.int .u8) (.pair (.int .u8) (.pair (.int .i32) .unit)))))) (.pair (.sl 94 (.pair (.int .i64) (.pair (.int .i64) (.pair (.int .i64) (.pair (.int .i64) (.pair (.int .i64) (.pair .bool .unit))))))) (.pair (.int .i64) (.pair (.arr 8 (.int .i64)) (.pair (.sl 96 (.pair (.int .i64) (.pair (.int .i64) .unit))) (.pair (.sl 4 .bool) (.pair (.sl 98 (.pair (.int .i64) (.pair (.int .i64) .unit))) .unit))))))))))) p) : PB k p := by
  obtain ⟨_, _, _, h1, h2, h3, _, _, h4, h5, h6, _⟩ := h
  have h1 : p.2.2.2.1.length * Tryd.prog.bytesOf 2 ≤ reachBytes := h1.1
  have h2 : p.2.2.2.2.1.length * Tryd.prog.bytesOf 57 ≤ reachBytes := h2.1
  have h3 : p.2.2.2.2.2.1.length * Tryd.prog.bytesOf 94 ≤ reachBytes := h3.1
  have h4 : p.2.2.2.2.2.2.2.2.1.length * Tryd.prog.bytesOf 96 ≤ reachBytes := h4.1
  have h5 : p.2.2.2.2.2.2.2.2.2.1.length * Tryd.prog.bytesOf 4 ≤ reachBytes := h5.1
  have h6 : p.2.2.2.2.2.2.2.2.2.2.1.length * Tryd.prog.bytesOf 98 ≤ reachBytes := h6.1
  rw [bytes2] at h1; rw [bytes57] at h2; rw [bytes94] at h3; rw [bytes96] at h4; rw [bytes4] at h5; rw [bytes98] at h6
  unfold reachBytes at h1 h2 h3 h4 h5 h6
  unfold psz at hk
  exact ⟨⟨by omega, by omega⟩, ⟨by omega, by omega⟩, ⟨by omega, by omega⟩, ⟨by omega, by omega⟩, ⟨by omega, by omega⟩, ⟨by omega, by omega⟩⟩
set_option maxRecDepth 100000 in
theorem flowOthers_any {H : Type} (enc : TypeId × Value → H) (W : World) {base : Nat} {v0 v1 v2 v3 : Value} {d0 d1 d2 d3 : DataW H} {p0 p1 p2 p3 : List MemPlace}
    (o0 : Value.okWide Tryd.prog W .any base 26 v0) (h0 : DataW.Trod enc Tryd.prog W 0 (fun _ => true) true 26 v0 d0 p0) (o1 : Value.okWide Tryd.prog W .any base 3 v1) (h1 : DataW.Trod enc Tryd.prog W 0 (fun _ => true) true 3 v1 d1 p1)
    (o2 : Value.okWide Tryd.prog W .any base 3 v2) (h2 : DataW.Trod enc Tryd.prog W 0 (fun _ => true) true 3 v2 d2 p2) (o3 : Value.okWide Tryd.prog W .any base 55 v3) (h3 : DataW.Trod enc Tryd.prog W 0 (fun _ => true) true 55 v3 d3 p3)
    (hsz : ∀ x ∈ DataW.weightsEach Tryd.prog [26, 3, 3, 55] [d0, d1, d2, d3], x ≤ reachBytes) (hL : laidMetH Tryd.prog Rows.flowOthersRow.laid W) :
    Calls Tryd.prog 5 #[v0, v1, v2, v3] W fun e w' => e = .returned (.bool true) ∧ Below W.heap.size W w' := by
  have G : GW W := gw_laid (by kernel_rfl) hL (by simp [Rows.flowOthersRow])
  simp only [DataW.weightsEach, List.mem_append, List.append_nil] at hsz
  obtain ⟨x0, a0, k0, _⟩ := open_arg (n := 12) (k := (.pair (.sl 55 (.pair (.pair (.int .i64) (.pair (.int .i64) (.pair (.int .i64) (.pair (.int .i64) .unit)))) (.pair (.int .i64) (.pair (.int .i64) (.pair (.sl 2 (.int .i64)) (.pair (.sl 57 (.pair (.int .u8) (.pair (.int .u8) (.pair (.int .u8) (.pair (.int .u8) (.pair (.int .i32) .unit)))))) (.pair (.sl 94 (.pair (.int .i64) (.pair (.int .i64) (.pair (.int .i64) (.pair (.int .i64) (.pair (.int .i64) (.pair .bool .unit))))))) (.pair (.int .i64) (.pair (.arr 8 (.int .i64)) (.pair (.sl 96 (.pair (.int .i64) (.pair (.int .i64) .unit))) (.pair (.sl 4 .bool) (.pair (.sl 98 (.pair (.int .i64) (.pair (.int .i64) .unit))) .unit)))))))))))) (.pair (.sl 65 (.pair (.int .i64) (.pair (.int .i64) (.pair .bool (.pair (.int .i64) (.pair (.int .i64) (.pair (.int .i64) .unit))))))) (.pair (.sl 62 (.pair (.int .i64) (.pair (.int .i64) (.pair (.sl 3 (.int .i64)) (.pair (.int .i64) (.pair (.int .i64) .unit)))))) .unit)))) (by kernel_rfl) o0 h0 (fun x hx => hsz x (.inl hx))
  obtain ⟨x1, a1, k1, _⟩ := open_arg (n := 6) (k := .int .i64) (by kernel_rfl) o1 h1 (fun x hx => hsz x (.inr (.inl hx)))
  obtain ⟨x2, a2, k2, _⟩ := open_arg (n := 6) (k := .int .i64) (by kernel_rfl) o2 h2 (fun x hx => hsz x (.inr (.inr (.inl hx))))
  obtain ⟨x3, a3, k3, _⟩ := open_arg (n := 12) (k := (.pair (.pair (.int .i64) (.pair (.int .i64) (.pair (.int .i64) (.pair (.int .i64) .unit)))) (.pair (.int .i64) (.pair (.int .i64) (.pair (.sl 2 (.int .i64)) (.pair (.sl 57 (.pair (.int .u8) (.pair (.int .u8) (.pair (.int .u8) (.pair (.int .u8) (.pair (.int .i32) .unit)))))) (.pair (.sl 94 (.pair (.int .i64) (.pair (.int .i64) (.pair (.int .i64) (.pair (.int .i64) (.pair (.int .i64) (.pair .bool .unit))))))) (.pair (.int .i64) (.pair (.arr 8 (.int .i64)) (.pair (.sl 96 (.pair (.int .i64) (.pair (.int .i64) .unit))) (.pair (.sl 4 .bool) (.pair (.sl 98 (.pair (.int .i64) (.pair (.int .i64) .unit))) .unit)))))))))))) (by kernel_rfl) o3 h3 (fun x hx => hsz x (.inr (.inr (.inr hx))))
  obtain ⟨k, hk, hb⟩ := psz_bound x0.1
  have hB : ∀ p ∈ x0.1, PB k p := fun p hp => pb_of (hb p hp) (k0.1.2 p hp)
  exact law_calls ok5 rfl (fun w' hb => G.below hb) (vs := [v0, v1, v2, v3]) ⟨_, _, rfl, a0, _, _, rfl, a1, _, _, rfl, a2, _, _, rfl, a3, rfl, rfl⟩ (others_ok hk x0 hB x1 x2 x3) rfl
end Go.Proofs.YtledeaknnihlmaaDoor
