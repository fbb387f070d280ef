import Derived.Test.YtjnnmgjpnbfhlaaTk1
import Derived.Test.YtjnnmgjpnbfhlaaOpen
import Derived.Test.YtjnnmgjpnbfhlaaRows
namespace Go.Proofs.Ytjnnmgjpnbfhlaa
open Go.RowKit Go.ChangeShapes Go.WideShapes Go.Deep Go.Proofs.YtjnnmgjpnbfhlaaW.PrintWords
set_option linter.unusedVariables false
set_option linter.unusedSimpArgs false

theorem opChannel : ∃ ok, Open.Op Try.prog 24 (Kd.pair (Kd.int .i64) (Kd.pair (Kd.int .i64) (Kd.pair (Kd.slice 3 (Kd.int .i64)) (Kd.pair (Kd.int .i64) (Kd.int .i64))))) ok ∧ ∀ x, ok x → x.2.2.1.length * 8 ≤ 140737488351232 ∧ (Lit.int .i64 x.2.2.2.1).wf = true ∧ (Lit.int .i64 x.2.2.2.2).wf = true := by
  have h3 := Open.op_int (P := Try.prog) Try.underlying3
  have h22 := Open.op_slice (P := Try.prog) Try.underlying22 h3 (by kernel_rfl)
  refine ⟨_, Open.op_struct Try.underlying24 (Open.ops_cons h3 rfl (Open.ops_cons h3 (by kernel_rfl) (Open.ops_cons h22 (by kernel_rfl) (Open.ops_cons h3 (by kernel_rfl) (Open.ops_last h3 (by kernel_rfl) (by kernel_rfl)))))), ?_⟩
  rintro x ⟨_, _, h1, h2, h4⟩
  have e : Try.prog.bytesOf 3 = 8 := by kernel_rfl
  rw [e] at h1
  exact ⟨h1.1, h2, h4⟩

set_option maxRecDepth 100000 in
theorem channelTicks_any {H : Type} (enc : TypeId × Value → H) (W : World) {base : Nat} {v0 v1 : Value} {d0 d1 : DataW H} {p0 p1 : List MemPlace} (o0 : Value.okWide Try.prog W .any base 24 v0) (h0 : DataW.Trod enc Try.prog W 0 (fun _ => true) true 24 v0 d0 p0)
    (o1 : Value.okWide Try.prog W .any base 3 v1) (h1 : DataW.Trod enc Try.prog W 0 (fun _ => true) true 3 v1 d1 p1)
    (hsz : ∀ x ∈ DataW.weightsEach Try.prog [24, 3] [d0, d1], x ≤ reachBytes) (hL : laidMetH Try.prog Rows.channelTicksRow.laid W) :
    Calls Try.prog 3 #[v0, v1] W fun e w' => e = .returned (.bool true) ∧ Below W.heap.size W w' := by
  obtain ⟨t, rfl, rfl, rfl, wt⟩ := open_int Try.underlying3 o1 h1
  obtain ⟨cs, rfl, hcs⟩ := okWide_struct Try.underlying24 o0
  obtain ⟨ok, hop, hok⟩ := opChannel
  obtain ⟨x, hK, ho⟩ := Open.open_arg hop h0 (fun n hn => hsz n (by unfold DataW.weightsEach; exact List.mem_append_left _ hn))
  obtain ⟨g1, g2, g3⟩ := hok x ho
  obtain ⟨kd, fr, l, ph, pe⟩ := x
  obtain ⟨_, _, e0, rfl, _, _, rfl, rfl, _, _, rfl, ⟨A, c, rfl, hlc, hC⟩, _, _, rfl, rfl, rfl⟩ := hK
  have e : cs = #[.int .i64 kd, .int .i64 fr, .slice A l.length c, .int .i64 ph, .int .i64 pe] := by
    apply Array.toList_inj.1
    have e1 : cs.toList = _ := e0
    rw [e1]; rfl
  subst e
  exact Ticks.walk kd fr A c l ph pe t W hC hlc g1 (bounds_i64 g2) (bounds_i64 g3) (bounds_i64 wt)
end Go.Proofs.Ytjnnmgjpnbfhlaa
