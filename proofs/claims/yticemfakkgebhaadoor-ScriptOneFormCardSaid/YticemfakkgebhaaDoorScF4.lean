import Derived.Test.YticemfakkgebhaaDoorScrF2
import Derived.Test.YticemfakkgebhaaDoorScP
import Derived.Test.YticemfakkgebhaaDoorScC5
namespace Go.Proofs.YticemfakkgebhaaDoor
open Go Go.Lift Go.RowKit L
set_option linter.unusedVariables false
set_option linter.unusedSimpArgs false

theorem L.oneForm_true (x : List Int) (hB : ∀ y ∈ x, isB y) (hl : x.length ≤ 140737488355328) : ∃ k, d7 k (x, ()) = some ((true, ()), ()) := by
  refine ⟨x.length + 4300000, ?_⟩
  generalize hk : x.length + 4300000 = k
  have f1 : appFits ([] : List Int).length x.length 1 = true := fits1 (by simp; omega)
  have s19 : d19 k () = some ((true, ()), ()) := by
    rw [show k = (k - 60) + 60 by omega]; exact known_true _
  obtain ⟨l, e, h26, h⟩ := decode_ok k (by omega) x hB
  simp only [d7, lt, f1, if_true, List.nil_append, h26, Option.bind_some]
  rcases h with ⟨rfl, rfl | rfl⟩ | ⟨rfl, h27⟩
  · simp only [s19, Option.bind_some]; rfl
  · simp only [s19, Option.bind_some]; rfl
  · have hs := sameI_eq k x (by omega) (by omega)
    simp only [bne_self_eq_false, Bool.false_eq_true, if_false, h27, s19, Option.bind_some, beq_self_eq_true, if_true, Bool.and_self, hs]
theorem bytes5 : Tryd.prog.bytesOf 5 = 1 := by kernel_rfl
set_option maxRecDepth 100000 in
theorem scriptOneForm_any {H : Type} (enc : TypeId × Value → H) (W : World) (hsh : W.ShapedOpen Tryd.prog) {base : Nat} {v0 : Value} {d0 : DataW H} {p0 : List MemPlace}
    (o0 : Value.okWide Tryd.prog W .any base 25 v0) (h0 : DataW.Trod enc Tryd.prog W 0 (fun _ => true) true 25 v0 d0 p0)
    (hsz : ∀ x ∈ DataW.weightsEach Tryd.prog [25] [d0], x ≤ reachBytes) (hL : laidMetH Tryd.prog Rows.scriptOneFormRow.laid W) :
    Calls Tryd.prog 7 #[v0] W fun e w' => e = .returned (.bool true) ∧ Below W.heap.size W w' := by
  have G : GW W := gw_laid hsh (by kernel_rfl) hL (by simp [Rows.scriptOneFormRow])
  simp only [DataW.weightsEach, List.append_nil] at hsz
  obtain ⟨x0, a0, k0, m0⟩ := open_arg (n := 6) (k := .sl 5 (.int .u8)) (by kernel_rfl) o0 h0 hsz
  have h1 : (x0 : List Int).length * Tryd.prog.bytesOf 5 ≤ reachBytes := k0.1
  rw [bytes5] at h1
  unfold reachBytes at h1
  have hB : ∀ y ∈ (x0 : List Int), isB y := by
    intro a ha
    have h2 : (Lit.int .u8 a).wf = true := k0.2 a ha
    simp [Lit.wf, IntKind.min, IntKind.max, IntKind.signed, IntKind.bits] at h2
    unfold isB
    omega
  obtain ⟨k, hk⟩ := oneForm_true x0 hB (by omega)
  exact law_calls ok7 rfl (fun w' hb => G.below hb) (vs := [v0]) ⟨_, _, rfl, a0, rfl, rfl⟩ hk rfl
end Go.Proofs.YticemfakkgebhaaDoor
