import Derived.Test.YtekgngedamnmaaaGreatDoorAgO
import Derived.Test.YtekgngedamnmaaaGreatDoorAgM13
import Derived.Test.YtekgngedamnmaaaGreatDoorLiftC
import Derived.Test.YtekgngedamnmaaaGreatDoorRows
import Derived.LaidHandle
namespace Go.Proofs.YtekgngedamnmaaaGreatDoor
open Go Go.Lift Go.RowKit L
set_option linter.unusedVariables false
set_option linter.unusedSimpArgs false

theorem etName : Tryz.prog.globalNamed "errors.errorType" = some 0 := by kernel_rfl
theorem rtType : (Tryz.prog.cutTypes.find? (·.1 == "internal/reflectlite.rtype")).map (·.2) = some 294 := by kernel_rfl
theorem typesSize : Tryz.prog.types.size = 360 := by kernel_rfl
theorem oneRow : ((List.range 360).filter fun t => Tryz.prog.rowNamed t [101, 114, 114, 111, 114]) = [172] := by kernel_rfl
/-- The type of errors, which the condition lays. -/
theorem gw_laid {W : World} (h : laidMetH Tryz.prog [("errors.errorType", Rows.laid_errors_errorType)] W) : GW W := by
  have h' : laidMet Tryz.prog [] W ∧ handlesMet Tryz.prog [("errors.errorType", Rows.laid_errors_errorType)] W := h
  obtain ⟨name, u, ty, e1, e2, e3, e4, e5⟩ := h'.2 _ (List.mem_singleton.2 rfl)
  have en : name = [101, 114, 114, 111, 114] := (Option.some.inj e1).symm
  subst en
  obtain rfl := Option.some.inj (rtType.symm.trans e2)
  have hm : ty ∈ (List.range 360).filter fun t => Tryz.prog.rowNamed t [101, 114, 114, 111, 114] := List.mem_filter.2 ⟨List.mem_range.2 (by rw [← typesSize]; exact e3), e4⟩
  rw [oneRow] at hm
  obtain rfl := List.mem_singleton.1 hm
  have hh : typeHandle Tryz.prog 172 = .pointer (some ⟨2, 172, none⟩) := by kernel_rfl
  rw [hh] at e5
  exact ⟨by simpa using World.var?_cell etName e5 0⟩
theorem bytes3 : Tryz.prog.bytesOf 3 = 8 := by kernel_rfl
def tosSum (im : IM) : Nat := (im.2.2.1.map fun d => d.2.2.1.length).sum
theorem le_tos {α : Type} (f : α → Nat) (l : List α) : ∀ d, d ∈ l → f d ≤ (l.map f).sum := by
  induction l with
  | nil => intro d hd; cases hd
  | cons a l ih =>
    intro d hd
    rw [List.map_cons, List.sum_cons]
    rcases List.mem_cons.1 hd with rfl | hd
    · omega
    · have := ih d hd; omega
theorem fits_ok {im : IM} (h : okD Tryz.prog kIM im) : Fits (1048601 + tosSum im) im := by
  obtain ⟨⟨_, h1⟩, ⟨_, h2⟩, ⟨_, h3⟩, _⟩ := h
  refine ⟨by omega, fun p hp => ?_, fun d hd => ⟨?_, ?_⟩⟩
  · obtain ⟨_, _, _, _, _, _, _, ⟨q, _⟩, _⟩ := h1 p hp
    exact q
  · have := le_tos (fun d : CH => d.2.2.1.length) im.2.2.1 d hd
    unfold tosSum
    omega
  · obtain ⟨_, _, ⟨q, _⟩, _⟩ := h3 d hd
    rw [bytes3] at q
    unfold reachBytes at q
    omega
set_option maxRecDepth 100000 in
theorem ageFresh_any {H : Type} (enc : TypeId × Value → H) (W : World) {base : Nat} {v0 v1 v2 v3 v4 : Value} {d0 d1 d2 d3 d4 : DataW H} {p0 p1 p2 p3 p4 : List MemPlace}
    (o0 : Value.okWide Tryz.prog W .any base 26 v0) (h0 : DataW.Trod enc Tryz.prog W 0 (fun _ => true) true 26 v0 d0 p0) (o1 : Value.okWide Tryz.prog W .any base 3 v1) (h1 : DataW.Trod enc Tryz.prog W 0 (fun _ => true) true 3 v1 d1 p1)
    (o2 : Value.okWide Tryz.prog W .any base 3 v2) (h2 : DataW.Trod enc Tryz.prog W 0 (fun _ => true) true 3 v2 d2 p2) (o3 : Value.okWide Tryz.prog W .any base 27 v3) (h3 : DataW.Trod enc Tryz.prog W 0 (fun _ => true) true 27 v3 d3 p3)
    (o4 : Value.okWide Tryz.prog W .any base 3 v4) (h4 : DataW.Trod enc Tryz.prog W 0 (fun _ => true) true 3 v4 d4 p4)
    (hsz : ∀ x ∈ DataW.weightsEach Tryz.prog [26, 3, 3, 27, 3] [d0, d1, d2, d3, d4], x ≤ reachBytes) (hL : laidMetH Tryz.prog Rows.ageFreshRow.laid W) :
    Calls Tryz.prog 3 #[v0, v1, v2, v3, v4] W fun e w' => e = .returned (.bool true) ∧ Below W.heap.size W w' := by
  have G : GW W := gw_laid hL
  simp only [DataW.weightsEach, List.append_nil, List.mem_append] at hsz
  obtain ⟨x0, a0, k0, _⟩ := open_arg (n := 8) (k := kIM) (by kernel_rfl) o0 h0 (fun x hx => hsz x (.inl hx))
  obtain ⟨x1, a1, k1, _⟩ := open_arg (n := 6) (k := .int .i64) (by kernel_rfl) o1 h1 (fun x hx => hsz x (.inr (.inl hx)))
  obtain ⟨x2, a2, k2, _⟩ := open_arg (n := 6) (k := .int .i64) (by kernel_rfl) o2 h2 (fun x hx => hsz x (.inr (.inr (.inl hx))))
  obtain ⟨x3, a3, k3, _⟩ := open_arg (n := 6) (k := .sl 3 (.int .i64)) (by kernel_rfl) o3 h3 (fun x hx => hsz x (.inr (.inr (.inr (.inl hx)))))
  obtain ⟨x4, a4, k4, _⟩ := open_arg (n := 6) (k := .int .i64) (by kernel_rfl) o4 h4 (fun x hx => hsz x (.inr (.inr (.inr (.inr hx)))))
  exact law_calls ok3 rfl (fun w' hb => G.below hb) (vs := [v0, v1, v2, v3, v4]) ⟨_, _, rfl, a0, _, _, rfl, a1, _, _, rfl, a2, _, _, rfl, a3, _, _, rfl, a4, rfl, rfl⟩ (d3_eq _ x0 (fits_ok k0) x1 x2 x4 x3) rfl
set_option maxRecDepth 100000 in
theorem ageRates_any {H : Type} (enc : TypeId × Value → H) (W : World) {base : Nat} {v0 v1 v2 v3 : Value} {d0 d1 d2 d3 : DataW H} {p0 p1 p2 p3 : List MemPlace}
    (o0 : Value.okWide Tryz.prog W .any base 26 v0) (h0 : DataW.Trod enc Tryz.prog W 0 (fun _ => true) true 26 v0 d0 p0) (o1 : Value.okWide Tryz.prog W .any base 3 v1) (h1 : DataW.Trod enc Tryz.prog W 0 (fun _ => true) true 3 v1 d1 p1)
    (o2 : Value.okWide Tryz.prog W .any base 3 v2) (h2 : DataW.Trod enc Tryz.prog W 0 (fun _ => true) true 3 v2 d2 p2) (o3 : Value.okWide Tryz.prog W .any base 3 v3) (h3 : DataW.Trod enc Tryz.prog W 0 (fun _ => true) true 3 v3 d3 p3)
    (hsz : ∀ x ∈ DataW.weightsEach Tryz.prog [26, 3, 3, 3] [d0, d1, d2, d3], x ≤ reachBytes) (hL : laidMetH Tryz.prog Rows.ageRatesRow.laid W) :
    Calls Tryz.prog 4 #[v0, v1, v2, v3] W fun e w' => e = .returned (.bool true) ∧ Below W.heap.size W w' := by
  have G : GW W := gw_laid hL
  simp only [DataW.weightsEach, List.append_nil, List.mem_append] at hsz
  obtain ⟨x0, a0, k0, _⟩ := open_arg (n := 8) (k := kIM) (by kernel_rfl) o0 h0 (fun x hx => hsz x (.inl hx))
  obtain ⟨x1, a1, k1, _⟩ := open_arg (n := 6) (k := .int .i64) (by kernel_rfl) o1 h1 (fun x hx => hsz x (.inr (.inl hx)))
  obtain ⟨x2, a2, k2, _⟩ := open_arg (n := 6) (k := .int .i64) (by kernel_rfl) o2 h2 (fun x hx => hsz x (.inr (.inr (.inl hx))))
  obtain ⟨x3, a3, k3, _⟩ := open_arg (n := 6) (k := .int .i64) (by kernel_rfl) o3 h3 (fun x hx => hsz x (.inr (.inr (.inr hx))))
  exact law_calls ok4 rfl (fun w' hb => G.below hb) (vs := [v0, v1, v2, v3]) ⟨_, _, rfl, a0, _, _, rfl, a1, _, _, rfl, a2, _, _, rfl, a3, rfl, rfl⟩ (d4_eq _ x0 (fits_ok k0) x1 x2 x3) rfl
end Go.Proofs.YtekgngedamnmaaaGreatDoor
