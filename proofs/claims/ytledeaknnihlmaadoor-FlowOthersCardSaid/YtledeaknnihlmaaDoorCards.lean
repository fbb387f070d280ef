/-
  DERIVED. GIVEN WITH THE SEED: THE CARDS: each row of YtledeaknnihlmaaDoorRows.lean that lists a variable, with what it lists TIED to the program's text (the seventh form; the later family's looks); each row that meets fmt, with fmt's text TOLD by the authors' own Lean function (tested against real Go, not proved from fmt's source: count such statements apart). THE CARD IS WHAT COUNTS. Prove the row's statement (the work); the ties are given (YtledeaknnihlmaaDoorTie.lean); close each card by the builder's one call (the guide's Derived/Test/ToyasCard.lean, 'card_holds'). Laid BY PROGRAM, IN A SANDBOX (cutbox-door.mjs). By AI agents, Wed Nov 11 2026. No macro, syntax, notation, axiom, sorry.
-/
import Derived.Test.YtledeaknnihlmaaDoorRows
import GoSem.ClaimSeven
namespace Go.Proofs.YtledeaknnihlmaaDoor
namespace Rows

/-- THE TIED CARD OF 'bulkheadlaw24.FlowExact'. -/
def flowExactCard : Claim7 := { stood := { row := flowExactRow, standIns := [], harness := (true, "81ab7724a5173a2dcab62acf90cbaf05176c1b962a3b56b891afbf3b1a3bb46a"), looks := false }, kinds := [], alts := [], laidByText := true, laidKinds := [.data, .data, .data], laidTests := true, laidLooks := .later }
def FlowExactCardSaid : Prop := Claim7.holds Tryd.pinned (.plain (OpenSpec.ofChange flowExactSpec)) flowExactCard

/-- THE TIED CARD OF 'bulkheadlaw24.FlowPaths'. -/
def flowPathsCard : Claim7 := { stood := { row := flowPathsRow, standIns := [], harness := (true, "81ab7724a5173a2dcab62acf90cbaf05176c1b962a3b56b891afbf3b1a3bb46a"), looks := false }, kinds := [], alts := [], laidByText := true, laidKinds := [.data, .data, .data], laidTests := true, laidLooks := .later }
def FlowPathsCardSaid : Prop := Claim7.holds Tryd.pinned (.plain (OpenSpec.ofChange flowPathsSpec)) flowPathsCard

/-- THE TIED CARD OF 'bulkheadlaw24.FlowOthers'. -/
def flowOthersCard : Claim7 := { stood := { row := flowOthersRow, standIns := [], harness := (true, "81ab7724a5173a2dcab62acf90cbaf05176c1b962a3b56b891afbf3b1a3bb46a"), looks := false }, kinds := [], alts := [], laidByText := true, laidKinds := [.data, .data, .data], laidTests := true, laidLooks := .later }
def FlowOthersCardSaid : Prop := Claim7.holds Tryd.pinned (.plain (OpenSpec.ofChange flowOthersSpec)) flowOthersCard

/-- THE SECOND FORM's CARD OF 'bulkheadlaw24.FlowExact'. -/
def flowExactUptoCard : Claim7 := { stood := { row := flowExactUptoRow, standIns := [], harness := (true, "81ab7724a5173a2dcab62acf90cbaf05176c1b962a3b56b891afbf3b1a3bb46a"), looks := false }, kinds := [], alts := [], laidByText := true, laidKinds := [.data, .data, .data], laidTests := true, laidLooks := .later }
def FlowExactUptoCardSaid : Prop := Claim7.holds Tryd.pinned (.plain (OpenSpec.upto flowExactSpec)) flowExactUptoCard

/-- THE SECOND FORM's CARD OF 'bulkheadlaw24.FlowPaths'. -/
def flowPathsUptoCard : Claim7 := { stood := { row := flowPathsUptoRow, standIns := [], harness := (true, "81ab7724a5173a2dcab62acf90cbaf05176c1b962a3b56b891afbf3b1a3bb46a"), looks := false }, kinds := [], alts := [], laidByText := true, laidKinds := [.data, .data, .data], laidTests := true, laidLooks := .later }
def FlowPathsUptoCardSaid : Prop := Claim7.holds Tryd.pinned (.plain (OpenSpec.upto flowPathsSpec)) flowPathsUptoCard

/-- THE SECOND FORM's CARD OF 'bulkheadlaw24.FlowOthers'. -/
def flowOthersUptoCard : Claim7 := { stood := { row := flowOthersUptoRow, standIns := [], harness := (true, "81ab7724a5173a2dcab62acf90cbaf05176c1b962a3b56b891afbf3b1a3bb46a"), looks := false }, kinds := [], alts := [], laidByText := true, laidKinds := [.data, .data, .data], laidTests := true, laidLooks := .later }
def FlowOthersUptoCardSaid : Prop := Claim7.holds Tryd.pinned (.plain (OpenSpec.upto flowOthersSpec)) flowOthersUptoCard
end Rows
end Go.Proofs.YtledeaknnihlmaaDoor
