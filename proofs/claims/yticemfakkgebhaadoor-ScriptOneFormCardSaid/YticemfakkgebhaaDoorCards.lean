/-
  DERIVED. GIVEN WITH THE SEED: THE CARDS: each row of YticemfakkgebhaaDoorRows.lean that lists a variable, with what it lists TIED to the program's text (the seventh form; the later family's looks); each row that meets fmt, with fmt's text TOLD by the authors' own Lean function (tested against real Go, not proved from fmt's source: count such statements apart). THE CARD IS WHAT COUNTS. Prove the row's statement (the work); the ties are given (YticemfakkgebhaaDoorTie.lean); close each card by the builder's one call (the guide's Derived/Test/ToyasCard.lean, 'card_holds'). Laid BY PROGRAM, IN A SANDBOX (cutbox-door.mjs). By AI agents, Wed Nov 11 2026. No macro, syntax, notation, axiom, sorry.
-/
import Derived.Test.YticemfakkgebhaaDoorRows
import GoSem.ClaimSeven
namespace Go.Proofs.YticemfakkgebhaaDoor
namespace Rows

/-- THE TIED CARD OF 'bulkheadlaw21.ScriptLines'. -/
def scriptLinesCard : Claim7 := { stood := { row := scriptLinesRow, standIns := [], harness := (true, "4e23adc6af467fdba9282703ea021db27e53849db45419ad8f5a2dddbfdec5e3"), looks := false }, kinds := [], alts := [], laidByText := true, laidKinds := [.data, .data, .data, .data, .pinned], laidTests := true, laidLooks := .later }
def ScriptLinesCardSaid : Prop := Claim7.holds Tryd.pinned (.plain (OpenSpec.ofChange scriptLinesSpec)) scriptLinesCard

/-- THE TIED CARD OF 'bulkheadlaw21.ScriptText'. -/
def scriptTextCard : Claim7 := { stood := { row := scriptTextRow, standIns := [], harness := (true, "4e23adc6af467fdba9282703ea021db27e53849db45419ad8f5a2dddbfdec5e3"), looks := false }, kinds := [], alts := [], laidByText := true, laidKinds := [.data, .data, .data, .data, .pinned], laidTests := true, laidLooks := .later }
def ScriptTextCardSaid : Prop := Claim7.holds Tryd.pinned (.plain (OpenSpec.ofChange scriptTextSpec)) scriptTextCard

/-- THE TIED CARD OF 'bulkheadlaw21.ScriptReads'. -/
def scriptReadsCard : Claim7 := { stood := { row := scriptReadsRow, standIns := [], harness := (true, "4e23adc6af467fdba9282703ea021db27e53849db45419ad8f5a2dddbfdec5e3"), looks := false }, kinds := [], alts := [], laidByText := true, laidKinds := [.data, .data, .data, .data, .pinned], laidTests := true, laidLooks := .later }
def ScriptReadsCardSaid : Prop := Claim7.holds Tryd.pinned (.plain (OpenSpec.ofChange scriptReadsSpec)) scriptReadsCard

/-- THE TIED CARD OF 'bulkheadlaw21.ScriptMerges'. -/
def scriptMergesCard : Claim7 := { stood := { row := scriptMergesRow, standIns := [], harness := (true, "4e23adc6af467fdba9282703ea021db27e53849db45419ad8f5a2dddbfdec5e3"), looks := false }, kinds := [], alts := [], laidByText := true, laidKinds := [.data, .data, .data, .data, .pinned], laidTests := true, laidLooks := .later }
def ScriptMergesCardSaid : Prop := Claim7.holds Tryd.pinned (.plain (OpenSpec.ofChange scriptMergesSpec)) scriptMergesCard

/-- THE TIED CARD OF 'bulkheadlaw21.ScriptOneForm'. -/
def scriptOneFormCard : Claim7 := { stood := { row := scriptOneFormRow, standIns := [], harness := (true, "4e23adc6af467fdba9282703ea021db27e53849db45419ad8f5a2dddbfdec5e3"), looks := false }, kinds := [], alts := [], laidByText := true, laidKinds := [.data, .data, .data, .data, .pinned], laidTests := true, laidLooks := .later }
def ScriptOneFormCardSaid : Prop := Claim7.holds Tryd.pinned (.plain (OpenSpec.ofChange scriptOneFormSpec)) scriptOneFormCard

/-- THE SECOND FORM's CARD OF 'bulkheadlaw21.ScriptLines'. -/
def scriptLinesUptoCard : Claim7 := { stood := { row := scriptLinesUptoRow, standIns := [], harness := (true, "4e23adc6af467fdba9282703ea021db27e53849db45419ad8f5a2dddbfdec5e3"), looks := false }, kinds := [], alts := [], laidByText := true, laidKinds := [.data, .data, .data, .data, .pinned], laidTests := true, laidLooks := .later }
def ScriptLinesUptoCardSaid : Prop := Claim7.holds Tryd.pinned (.plain (OpenSpec.upto scriptLinesSpec)) scriptLinesUptoCard

/-- THE SECOND FORM's CARD OF 'bulkheadlaw21.ScriptText'. -/
def scriptTextUptoCard : Claim7 := { stood := { row := scriptTextUptoRow, standIns := [], harness := (true, "4e23adc6af467fdba9282703ea021db27e53849db45419ad8f5a2dddbfdec5e3"), looks := false }, kinds := [], alts := [], laidByText := true, laidKinds := [.data, .data, .data, .data, .pinned], laidTests := true, laidLooks := .later }
def ScriptTextUptoCardSaid : Prop := Claim7.holds Tryd.pinned (.plain (OpenSpec.upto scriptTextSpec)) scriptTextUptoCard

/-- THE SECOND FORM's CARD OF 'bulkheadlaw21.ScriptReads'. -/
def scriptReadsUptoCard : Claim7 := { stood := { row := scriptReadsUptoRow, standIns := [], harness := (true, "4e23adc6af467fdba9282703ea021db27e53849db45419ad8f5a2dddbfdec5e3"), looks := false }, kinds := [], alts := [], laidByText := true, laidKinds := [.data, .data, .data, .data, .pinned], laidTests := true, laidLooks := .later }
def ScriptReadsUptoCardSaid : Prop := Claim7.holds Tryd.pinned (.plain (OpenSpec.upto scriptReadsSpec)) scriptReadsUptoCard

/-- THE SECOND FORM's CARD OF 'bulkheadlaw21.ScriptMerges'. -/
def scriptMergesUptoCard : Claim7 := { stood := { row := scriptMergesUptoRow, standIns := [], harness := (true, "4e23adc6af467fdba9282703ea021db27e53849db45419ad8f5a2dddbfdec5e3"), looks := false }, kinds := [], alts := [], laidByText := true, laidKinds := [.data, .data, .data, .data, .pinned], laidTests := true, laidLooks := .later }
def ScriptMergesUptoCardSaid : Prop := Claim7.holds Tryd.pinned (.plain (OpenSpec.upto scriptMergesSpec)) scriptMergesUptoCard

/-- THE SECOND FORM's CARD OF 'bulkheadlaw21.ScriptOneForm'. -/
def scriptOneFormUptoCard : Claim7 := { stood := { row := scriptOneFormUptoRow, standIns := [], harness := (true, "4e23adc6af467fdba9282703ea021db27e53849db45419ad8f5a2dddbfdec5e3"), looks := false }, kinds := [], alts := [], laidByText := true, laidKinds := [.data, .data, .data, .data, .pinned], laidTests := true, laidLooks := .later }
def ScriptOneFormUptoCardSaid : Prop := Claim7.holds Tryd.pinned (.plain (OpenSpec.upto scriptOneFormSpec)) scriptOneFormUptoCard
end Rows
end Go.Proofs.YticemfakkgebhaaDoor
