import Derived.Test.YtekgngedamnmaaaGreatDoorAgO
import Derived.Test.YtekgngedamnmaaaGreatDoorAgM13
import Derived.Test.YtekgngedamnmaaaGreatDoorLiftC
import Derived.Test.YtekgngedamnmaaaGreatDoorRows
import Derived.LaidHandle
namespace Go.Proofs.YtekgngedamnmaaaGreatDoor
open Go Go.Lift Go.RowKit L
set_option linter.unusedVariables false
set_option linter.unusedSimpArgs false

theorem etName : Tryz.prog.globalNamed "errors.errorType" = some 0 := by kernel_rfl
theorem rtType : (Tryz.prog.cutTypes.find? (·.1 == "internal/reflectlite.rtype")).map (·.2) = some 294 := by kernel_rfl
theorem typesSize : Tryz.prog.types.size = 360 := by kernel_rfl
theorem oneRow : ((List.range 360).filter fun t => Tryz.prog.rowNamed t [101, 114, 114, 111, 114]) = [172] := by kernel_rfl
/-- The type of errors, which the condition lays. -/
theorem gw_laid {W : World} (h : laidMetH Tryz.prog [("errors.errorType", Rows.laid_errors_errorType)] W) : GW W := by
  have h' : laidMet Tryz.prog [] W ∧ handlesMet Tryz.prog [("errors.errorType", Rows.laid_errors_errorType)] W := h
  obtain ⟨name, u, ty, e1, e2, e3, e4, e5⟩ := h'.2 _ (List.mem_singleton.2 rfl)
  have en : name = [101, 114, 114, 111, 114] := (Option.some.inj e1).symm
  subst en
  obtain rfl := Option.some.inj (rtType.symm.trans e2)
  have hm : ty ∈ (List.range 360).filter fun t => Tryz.prog.rowNamed t [101, 114, 114, 111, 114] := List.mem_filter.2 ⟨List.mem_range.2 (by rw [← typesSize]; exact e3), e4⟩
  rw [oneRow] at hm
  obtain rfl := List.mem_singleton.1 hm
  have hh : typeHandle Tryz.prog 172 = .pointer (some ⟨2, 172, none⟩) := by kernel_rfl
  rw [hh] at e5
  exact ⟨by simpa using World.var?_cell etName e5 0⟩
theorem bytes3 : Tryz.prog.bytesOf 3 = 8 := by kernel_rfl
def tosSum (im : IM) : Nat := (im.2.2.1.map fun d => d.2.2.1.length).sum
theorem le_tos {α : Type} (f : α → Nat) (l : List α) : ∀ d, d ∈ l → f d ≤ (l.map f).sum := by
  induction l with
  | nil => intro d hd; cases hd
  | cons a l ih =>
    intro d hd
    rw [List.map_cons, List.sum_cons]
    rcases List.mem_cons.1 hd with rfl | hd
    · omega
    · have := ih d hd; omega
theorem fits_ok {im : IM} (h : okD Tryz.prog kIM im) : Fits (1048601 + tosSum im) im := by
  obtain ⟨⟨_, h1⟩, ⟨_, h2⟩, ⟨_, h3⟩, _⟩ := h
  refine ⟨by omega, fun p hp => ?_, fun d hd => ⟨?_, ?_⟩⟩
  · obtain ⟨_, _, _, _, _, _, _, ⟨q, _⟩, _⟩ := h1 p hp
    exact q
  · have := le_tos (fun d : CH => d.2.2.1.length) im.2.2.1 d hd
    unfold tosSum
    omega
  · obtain ⟨_, _, ⟨q, _⟩, _⟩ := h3 d hd
    rw [bytes3] at q
    unfold reachBytes at q
    omega
end Go.Proofs.YtekgngedamnmaaaGreatDoor
