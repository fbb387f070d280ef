import Derived.Test.YticemfakkgebhaaGreatDoorStD
import Derived.Test.YticemfakkgebhaaGreatDoorStG
namespace Go.Proofs.YticemfakkgebhaaGreatDoor.L
open Go Go.Lift Go.RowKit
set_option linter.unusedVariables false
set_option linter.unusedSimpArgs false
theorem ok29 : FnOk Tryz.prog GW 29 ⟨s29, d29⟩ := by
  refine fnOk_of rfl fun k (x : List Int × Unit) r hr w S vs hG ⟨v0, vs0, e0, h0, hv⟩ => ?_
  obtain ⟨rfl, _⟩ := hv
  subst e0
  obtain ⟨A, cap, rfl, hc, hx⟩ := val_sl (k := .int .u8) rfl h0
  have hr : d29 k x = some r := hr
  unfold d29 at hr
  split at hr <;> try (cases hr; done)
  rename_i hb
  obtain rfl := Option.some.inj hr
  obtain ⟨xs, u⟩ := x
  have fin : ∀ v' w', w'.ownsRow w.heap.size 5 1 v' xs.length (xs.map (enc1 (.int .u8))) → Below w.heap.size w w' → ∃ us F', Ending.returned v' = .returned (tup us) ∧ Below w.heap.size w w' ∧ F'.Nodup ∧ (∀ b ∈ F', w.heap.size ≤ b) ∧ ResR w' (After S [] w.heap.size F') s29.rs (xs, ()) us F' := by
    intro v' w' h939 h949
    obtain ⟨F, f1, f2, f939⟩ := res_row (k := .int .u8) rfl h939
    exact ⟨[v'], F, rfl, h949, f1, f2, ⟨v', [], F, [], rfl, by simp, f939 _, rfl, rfl⟩⟩
  cases A with
  | none =>
    have hl : xs = [] := (hx.resolve_right (by rintro ⟨b, o, e, _⟩; cases e)).1
    subst hl
    exact (Tryz.bytes_Clone_nil 0 cap w).mono fun e w' h2 => by
      obtain ⟨rfl, rfl⟩ := h2
      exact fin _ _ (World.ownsRow_nil _ _ _ _) (Below.refl _ _)
  | some ad =>
    refine (Tryz.bytes_Clone_at ad xs.length cap xs w rfl hb (fun i hi => ?_)).mono fun e w' h2 => ?_
    · rcases hx with ⟨hx, _⟩ | ⟨b, o, he, _, hlt, hcell⟩
      · exact absurd hi (by have hx : xs = [] := hx; rw [hx]; exact Nat.not_lt_zero i)
      · obtain rfl := Option.some.inj he
        rw [Addr.add_lit]
        refine hcell i _ ?_
        erw [List.getElem?_map, List.getElem?_eq_getElem hi]
        simp [enc1, List.getD, List.getElem?_eq_getElem hi]
    · obtain ⟨v, rfl, h949, _, h959⟩ := h2
      exact fin _ _ h949 h959
end Go.Proofs.YticemfakkgebhaaGreatDoor.L
