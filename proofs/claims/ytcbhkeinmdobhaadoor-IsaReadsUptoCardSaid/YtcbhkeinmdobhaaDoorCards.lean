/-
  DERIVED. GIVEN WITH THE SEED: THE CARDS: each row of YtcbhkeinmdobhaaDoorRows.lean that lists a variable, with what it lists TIED to the program's text (the seventh form; the later family's looks); each row that meets fmt, with fmt's text TOLD by the authors' own Lean function (tested against real Go, not proved from fmt's source: count such statements apart). THE CARD IS WHAT COUNTS. Prove the row's statement (the work); the ties are given (YtcbhkeinmdobhaaDoorTie.lean); close each card by the builder's one call (the guide's Derived/Test/ToyasCard.lean, 'card_holds'). Laid BY PROGRAM, IN A SANDBOX (cutbox-door.mjs). By AI agents, Wed Nov 11 2026. No macro, syntax, notation, axiom, sorry.
-/
import Derived.Test.YtcbhkeinmdobhaaDoorRows
import GoSem.ClaimSeven
namespace Go.Proofs.YtcbhkeinmdobhaaDoor
namespace Rows

/-- THE TIED CARD OF 'bulkheadlaw03.IsaTable'. -/
def isaTableCard : Claim7 := { stood := { row := isaTableRow, standIns := [], harness := (true, "effa34e7c4d3745200b0ad9833b19122430c7e5fe68d1fff7123e6caa301526d"), looks := true }, kinds := [], alts := [], laidByText := true, laidKinds := [.data], laidTests := true, laidLooks := .later }
def IsaTableCardSaid : Prop := Claim7.holds Tryd.pinned (.plain (OpenSpec.ofChange isaTableSpec)) isaTableCard

/-- THE TIED CARD OF 'bulkheadlaw03.IsaBack'. -/
def isaBackCard : Claim7 := { stood := { row := isaBackRow, standIns := [], harness := (true, "effa34e7c4d3745200b0ad9833b19122430c7e5fe68d1fff7123e6caa301526d"), looks := true }, kinds := [], alts := [], laidByText := true, laidKinds := [.data, .data, .data, .data], laidTests := true, laidLooks := .later }
def IsaBackCardSaid : Prop := Claim7.holds Tryd.pinned (.plain (OpenSpec.ofChange isaBackSpec)) isaBackCard

/-- THE TIED CARD OF 'bulkheadlaw03.IsaNames'. -/
def isaNamesCard : Claim7 := { stood := { row := isaNamesRow, standIns := [], harness := (true, "effa34e7c4d3745200b0ad9833b19122430c7e5fe68d1fff7123e6caa301526d"), looks := true }, kinds := [], alts := [], laidByText := true, laidKinds := [.data, .data, .data, .data], laidTests := true, laidLooks := .later }
def IsaNamesCardSaid : Prop := Claim7.holds Tryd.pinned (.plain (OpenSpec.ofChange isaNamesSpec)) isaNamesCard

/-- THE TIED CARD OF 'bulkheadlaw03.IsaShows'. -/
def isaShowsCard : Claim7 := { stood := { row := isaShowsRow, standIns := [], harness := (true, "effa34e7c4d3745200b0ad9833b19122430c7e5fe68d1fff7123e6caa301526d"), looks := true }, kinds := [], alts := [], laidByText := true, laidKinds := [.data, .data, .data, .data], laidTests := true, laidLooks := .later }
def IsaShowsCardSaid : Prop := Claim7.holds Tryd.pinned (.plain (OpenSpec.ofChange isaShowsSpec)) isaShowsCard

/-- THE TIED CARD OF 'bulkheadlaw03.IsaLegal'. -/
def isaLegalCard : Claim7 := { stood := { row := isaLegalRow, standIns := [], harness := (true, "effa34e7c4d3745200b0ad9833b19122430c7e5fe68d1fff7123e6caa301526d"), looks := true }, kinds := [], alts := [], laidByText := true, laidKinds := [.data, .data, .data, .data], laidTests := true, laidLooks := .later }
def IsaLegalCardSaid : Prop := Claim7.holds Tryd.pinned (.plain (OpenSpec.ofChange isaLegalSpec)) isaLegalCard

/-- THE TIED CARD OF 'bulkheadlaw03.IsaReads'. -/
def isaReadsCard : Claim7 := { stood := { row := isaReadsRow, standIns := [], harness := (true, "effa34e7c4d3745200b0ad9833b19122430c7e5fe68d1fff7123e6caa301526d"), looks := true }, kinds := [], alts := [], laidByText := true, laidKinds := [.data, .data, .data, .data, .sentinel, .sentinel, .data, .pinned], laidTests := true, laidLooks := .later }
def IsaReadsCardSaid : Prop := Claim7.holds Tryd.pinned (.plain (OpenSpec.ofChange isaReadsSpec)) isaReadsCard

/-- THE TIED CARD OF 'bulkheadlaw03.IsaThere'. -/
def isaThereCard : Claim7 := { stood := { row := isaThereRow, standIns := [], harness := (true, "effa34e7c4d3745200b0ad9833b19122430c7e5fe68d1fff7123e6caa301526d"), looks := true }, kinds := [], alts := [], laidByText := true, laidKinds := [.data, .data, .data, .data, .sentinel, .sentinel, .data, .pinned], laidTests := true, laidLooks := .later }
def IsaThereCardSaid : Prop := Claim7.holds Tryd.pinned (.plain (OpenSpec.ofChange isaThereSpec)) isaThereCard

/-- THE TIED CARD OF 'bulkheadlaw03.IsaOneLine'. -/
def isaOneLineCard : Claim7 := { stood := { row := isaOneLineRow, standIns := [], harness := (true, "effa34e7c4d3745200b0ad9833b19122430c7e5fe68d1fff7123e6caa301526d"), looks := true }, kinds := [], alts := [], laidByText := true, laidKinds := [.data, .data, .data, .data, .sentinel, .sentinel, .data, .pinned], laidTests := true, laidLooks := .later }
def IsaOneLineCardSaid : Prop := Claim7.holds Tryd.pinned (.plain (OpenSpec.ofChange isaOneLineSpec)) isaOneLineCard

/-- THE SECOND FORM's CARD OF 'bulkheadlaw03.IsaTable'. -/
def isaTableUptoCard : Claim7 := { stood := { row := isaTableUptoRow, standIns := [], harness := (true, "effa34e7c4d3745200b0ad9833b19122430c7e5fe68d1fff7123e6caa301526d"), looks := true }, kinds := [], alts := [], laidByText := true, laidKinds := [.data], laidTests := true, laidLooks := .later }
def IsaTableUptoCardSaid : Prop := Claim7.holds Tryd.pinned (.plain (OpenSpec.upto isaTableSpec)) isaTableUptoCard

/-- THE SECOND FORM's CARD OF 'bulkheadlaw03.IsaBack'. -/
def isaBackUptoCard : Claim7 := { stood := { row := isaBackUptoRow, standIns := [], harness := (true, "effa34e7c4d3745200b0ad9833b19122430c7e5fe68d1fff7123e6caa301526d"), looks := true }, kinds := [], alts := [], laidByText := true, laidKinds := [.data, .data, .data, .data], laidTests := true, laidLooks := .later }
def IsaBackUptoCardSaid : Prop := Claim7.holds Tryd.pinned (.plain (OpenSpec.upto isaBackSpec)) isaBackUptoCard

/-- THE SECOND FORM's CARD OF 'bulkheadlaw03.IsaNames'. -/
def isaNamesUptoCard : Claim7 := { stood := { row := isaNamesUptoRow, standIns := [], harness := (true, "effa34e7c4d3745200b0ad9833b19122430c7e5fe68d1fff7123e6caa301526d"), looks := true }, kinds := [], alts := [], laidByText := true, laidKinds := [.data, .data, .data, .data], laidTests := true, laidLooks := .later }
def IsaNamesUptoCardSaid : Prop := Claim7.holds Tryd.pinned (.plain (OpenSpec.upto isaNamesSpec)) isaNamesUptoCard

/-- THE SECOND FORM's CARD OF 'bulkheadlaw03.IsaShows'. -/
def isaShowsUptoCard : Claim7 := { stood := { row := isaShowsUptoRow, standIns := [], harness := (true, "effa34e7c4d3745200b0ad9833b19122430c7e5fe68d1fff7123e6caa301526d"), looks := true }, kinds := [], alts := [], laidByText := true, laidKinds := [.data, .data, .data, .data], laidTests := true, laidLooks := .later }
def IsaShowsUptoCardSaid : Prop := Claim7.holds Tryd.pinned (.plain (OpenSpec.upto isaShowsSpec)) isaShowsUptoCard

/-- THE SECOND FORM's CARD OF 'bulkheadlaw03.IsaLegal'. -/
def isaLegalUptoCard : Claim7 := { stood := { row := isaLegalUptoRow, standIns := [], harness := (true, "effa34e7c4d3745200b0ad9833b19122430c7e5fe68d1fff7123e6caa301526d"), looks := true }, kinds := [], alts := [], laidByText := true, laidKinds := [.data, .data, .data, .data], laidTests := true, laidLooks := .later }
def IsaLegalUptoCardSaid : Prop := Claim7.holds Tryd.pinned (.plain (OpenSpec.upto isaLegalSpec)) isaLegalUptoCard

/-- THE SECOND FORM's CARD OF 'bulkheadlaw03.IsaReads'. -/
def isaReadsUptoCard : Claim7 := { stood := { row := isaReadsUptoRow, standIns := [], harness := (true, "effa34e7c4d3745200b0ad9833b19122430c7e5fe68d1fff7123e6caa301526d"), looks := true }, kinds := [], alts := [], laidByText := true, laidKinds := [.data, .data, .data, .data, .sentinel, .sentinel, .data, .pinned], laidTests := true, laidLooks := .later }
def IsaReadsUptoCardSaid : Prop := Claim7.holds Tryd.pinned (.plain (OpenSpec.upto isaReadsSpec)) isaReadsUptoCard

/-- THE SECOND FORM's CARD OF 'bulkheadlaw03.IsaThere'. -/
def isaThereUptoCard : Claim7 := { stood := { row := isaThereUptoRow, standIns := [], harness := (true, "effa34e7c4d3745200b0ad9833b19122430c7e5fe68d1fff7123e6caa301526d"), looks := true }, kinds := [], alts := [], laidByText := true, laidKinds := [.data, .data, .data, .data, .sentinel, .sentinel, .data, .pinned], laidTests := true, laidLooks := .later }
def IsaThereUptoCardSaid : Prop := Claim7.holds Tryd.pinned (.plain (OpenSpec.upto isaThereSpec)) isaThereUptoCard

/-- THE SECOND FORM's CARD OF 'bulkheadlaw03.IsaOneLine'. -/
def isaOneLineUptoCard : Claim7 := { stood := { row := isaOneLineUptoRow, standIns := [], harness := (true, "effa34e7c4d3745200b0ad9833b19122430c7e5fe68d1fff7123e6caa301526d"), looks := true }, kinds := [], alts := [], laidByText := true, laidKinds := [.data, .data, .data, .data, .sentinel, .sentinel, .data, .pinned], laidTests := true, laidLooks := .later }
def IsaOneLineUptoCardSaid : Prop := Claim7.holds Tryd.pinned (.plain (OpenSpec.upto isaOneLineSpec)) isaOneLineUptoCard
end Rows
end Go.Proofs.YtcbhkeinmdobhaaDoor
