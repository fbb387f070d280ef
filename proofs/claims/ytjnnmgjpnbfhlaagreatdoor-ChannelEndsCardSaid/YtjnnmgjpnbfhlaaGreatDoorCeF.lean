import Derived.Test.YtjnnmgjpnbfhlaaGreatDoorCeL4
import Derived.Test.YtjnnmgjpnbfhlaaGreatDoorLiftC
import Derived.Test.YtjnnmgjpnbfhlaaGreatDoorRows
import Derived.LaidHandle
namespace Go.Proofs.YtjnnmgjpnbfhlaaGreatDoor
open Go Go.Lift Go.RowKit L
set_option linter.unusedVariables false
set_option linter.unusedSimpArgs false

theorem etName : Tryz.prog.globalNamed "errors.errorType" = some 0 := by kernel_rfl
theorem rtType : (Tryz.prog.cutTypes.find? (·.1 == "internal/reflectlite.rtype")).map (·.2) = some 145 := by kernel_rfl
theorem typesSize : Tryz.prog.types.size = 197 := by kernel_rfl
theorem oneRow : ((List.range 197).filter fun t => Tryz.prog.rowNamed t [101, 114, 114, 111, 114]) = [57] := by kernel_rfl
/-- The type of errors, which the condition lays. -/
theorem gw_laid {W : World} (h : laidMetH Tryz.prog [("errors.errorType", Rows.laid_errors_errorType)] W) : GW W := by
  have h' : laidMet Tryz.prog [] W ∧ handlesMet Tryz.prog [("errors.errorType", Rows.laid_errors_errorType)] W := h
  obtain ⟨name, u, ty, e1, e2, e3, e4, e5⟩ := h'.2 _ (List.mem_singleton.2 rfl)
  have en : name = [101, 114, 114, 111, 114] := (Option.some.inj e1).symm
  subst en
  obtain rfl := Option.some.inj (rtType.symm.trans e2)
  have hm : ty ∈ (List.range 197).filter fun t => Tryz.prog.rowNamed t [101, 114, 114, 111, 114] := List.mem_filter.2 ⟨List.mem_range.2 (by rw [← typesSize]; exact e3), e4⟩
  rw [oneRow] at hm
  obtain rfl := List.mem_singleton.1 hm
  have hh : typeHandle Tryz.prog 57 = .pointer (some ⟨1, 57, none⟩) := by kernel_rfl
  rw [hh] at e5
  exact ⟨by simpa using World.var?_cell etName e5 0⟩
theorem bytes3 : Tryz.prog.bytesOf 3 = 8 := by kernel_rfl
theorem bytes39 : Tryz.prog.bytesOf 39 = 56 := by kernel_rfl
theorem bytes42 : 1 ≤ Tryz.prog.bytesOf 42 := by decide +kernel
def tosSum (im : IM) : Nat := (im.2.2.1.map fun d => d.2.2.1.length).sum
theorem le_tos {α : Type} (f : α → Nat) (l : List α) : ∀ d, d ∈ l → f d ≤ (l.map f).sum := by
  induction l with
  | nil => intro d hd; cases hd
  | cons a l ih =>
    intro d hd
    rw [List.map_cons, List.sum_cons]
    rcases List.mem_cons.1 hd with rfl | hd
    · omega
    · have := ih d hd; omega
theorem fits_ok {im : IM} (h : okD Tryz.prog kIM im) : C.Fits (1048603 + tosSum im + im.2.2.1.length) im ∧ Fit (1048603 + tosSum im + im.2.2.1.length) im := by
  obtain ⟨⟨_, h1⟩, ⟨h2, _⟩, ⟨h4, h3⟩, _⟩ := h
  have t8 : ∀ c, c ∈ im.2.2.1 → c.2.2.1.length * 8 ≤ 140737488351232 := by
    intro d hd
    obtain ⟨_, _, ⟨q, _⟩, _⟩ := h3 d hd
    rw [bytes3] at q
    unfold reachBytes at q
    exact q
  have tl : ∀ c, c ∈ im.2.2.1 → c.2.2.1.length ≤ tosSum im := fun d hd => le_tos (fun d : CH => d.2.2.1.length) im.2.2.1 d hd
  refine ⟨⟨by omega, fun p hp => ?_, fun d hd => ⟨?_, ?_⟩⟩, ⟨⟨?_, ?_, fun d hd => ?_⟩, fun d hd => ?_, fun d hd => ?_, by omega, by omega⟩⟩
  · obtain ⟨_, _, _, _, _, _, _, ⟨q, _⟩, _⟩ := h1 p hp
    exact q
  · have := tl d hd; omega
  · have := t8 d hd; omega
  · rw [bytes39] at h4
    unfold reachBytes at h4
    omega
  · have hb := bytes42
    have : im.2.1.length * 1 ≤ im.2.1.length * Tryz.prog.bytesOf 42 := Nat.mul_le_mul_left _ hb
    unfold reachBytes at h2
    omega
  · have := t8 d hd; omega
  · have := t8 d hd; omega
  · have := tl d hd; omega
set_option maxRecDepth 100000 in
theorem channelEnds_any {H : Type} (enc : TypeId × Value → H) (W : World) {base : Nat} {v0 v1 : Value} {d0 d1 : DataW H} {p0 p1 : List MemPlace}
    (o0 : Value.okWide Tryz.prog W .any base 26 v0) (h0 : DataW.Trod enc Tryz.prog W 0 (fun _ => true) true 26 v0 d0 p0) (o1 : Value.okWide Tryz.prog W .any base 3 v1) (h1 : DataW.Trod enc Tryz.prog W 0 (fun _ => true) true 3 v1 d1 p1)
    (hsz : ∀ x ∈ DataW.weightsEach Tryz.prog [26, 3] [d0, d1], x ≤ reachBytes) (hL : laidMetH Tryz.prog Rows.channelEndsRow.laid W) :
    Calls Tryz.prog 3 #[v0, v1] W fun e w' => e = .returned (.bool true) ∧ Below W.heap.size W w' := by
  have G : GW W := gw_laid hL
  simp only [DataW.weightsEach, List.append_nil, List.mem_append] at hsz
  obtain ⟨x0, a0, k0, _⟩ := open_arg (n := 8) (k := kIM) (by kernel_rfl) o0 h0 (fun x hx => hsz x (.inl hx))
  obtain ⟨x1, a1, k1, _⟩ := open_arg (n := 6) (k := .int .i64) (by kernel_rfl) o1 h1 (fun x hx => hsz x (.inr hx))
  obtain ⟨q1, q2⟩ := fits_ok k0
  exact law_calls ok3 rfl (fun w' hb => G.below hb) (vs := [v0, v1]) ⟨_, _, rfl, a0, _, _, rfl, a1, rfl, rfl⟩ (d3_eq _ x0 x1 q2 q1) rfl
end Go.Proofs.YtjnnmgjpnbfhlaaGreatDoor
