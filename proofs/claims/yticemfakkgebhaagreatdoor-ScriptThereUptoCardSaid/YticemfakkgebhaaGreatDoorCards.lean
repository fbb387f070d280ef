/-
  DERIVED. GIVEN WITH THE SEED: THE CARDS: each row of YticemfakkgebhaaGreatDoorRows.lean that lists a variable, with what it lists TIED to the program's text (the seventh form; the later family's looks); each row that meets fmt, with fmt's text TOLD by the authors' own Lean function (tested against real Go, not proved from fmt's source: count such statements apart). THE CARD IS WHAT COUNTS. Prove the row's statement (the work); the ties are given (YticemfakkgebhaaGreatDoorTie.lean); close each card by the builder's one call (the guide's Derived/Test/ToyasCard.lean, 'card_holds'). Laid BY PROGRAM, IN A SANDBOX (cutbox-door.mjs). By AI agents, Wed Nov 11 2026. No macro, syntax, notation, axiom, sorry.
-/
import Derived.Test.YticemfakkgebhaaGreatDoorRows
import GoSem.ClaimSeven
namespace Go.Proofs.YticemfakkgebhaaGreatDoor
namespace Rows

/-- THE TIED CARD OF 'bulkheadlaw21.ScriptThere'. -/
def scriptThereCard : Claim7 := { stood := { row := scriptThereRow, standIns := [], harness := (true, "e1c9adde54b3b9d5594c4754d3c34060f43b40a7743ed5200c5bf6e02d9b7840"), looks := false }, kinds := [], alts := [], laidByText := true, laidKinds := [.data, .data, .data, .data, .pinned], laidTests := true, laidLooks := .later }
def ScriptThereCardSaid : Prop := Claim7.holds Tryz.pinned (.plain (OpenSpec.ofChange scriptThereSpec)) scriptThereCard

/-- THE SECOND FORM's CARD OF 'bulkheadlaw21.ScriptThere'. -/
def scriptThereUptoCard : Claim7 := { stood := { row := scriptThereUptoRow, standIns := [], harness := (true, "e1c9adde54b3b9d5594c4754d3c34060f43b40a7743ed5200c5bf6e02d9b7840"), looks := false }, kinds := [], alts := [], laidByText := true, laidKinds := [.data, .data, .data, .data, .pinned], laidTests := true, laidLooks := .later }
def ScriptThereUptoCardSaid : Prop := Claim7.holds Tryz.pinned (.plain (OpenSpec.upto scriptThereSpec)) scriptThereUptoCard
end Rows
end Go.Proofs.YticemfakkgebhaaGreatDoor
