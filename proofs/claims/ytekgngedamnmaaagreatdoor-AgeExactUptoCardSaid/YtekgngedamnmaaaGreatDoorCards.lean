/-
  DERIVED. GIVEN WITH THE SEED: THE CARDS: each row of YtekgngedamnmaaaGreatDoorRows.lean that lists a variable, with what it lists TIED to the program's text (the seventh form; the later family's looks); each row that meets fmt, with fmt's text TOLD by the authors' own Lean function (tested against real Go, not proved from fmt's source: count such statements apart). THE CARD IS WHAT COUNTS. Prove the row's statement (the work); the ties are given (YtekgngedamnmaaaGreatDoorTie.lean); close each card by the builder's one call (the guide's Derived/Test/ToyasCard.lean, 'card_holds'). Laid BY PROGRAM, IN A SANDBOX (cutbox-door.mjs). By AI agents, Wed Nov 11 2026. No macro, syntax, notation, axiom, sorry.
-/
import Derived.Test.YtekgngedamnmaaaGreatDoorRows
import GoSem.ClaimSeven
namespace Go.Proofs.YtekgngedamnmaaaGreatDoor
namespace Rows

/-- THE TIED CARD OF 'bulkheadlaw26.AgeFresh'. -/
def ageFreshCard : Claim7 := { stood := { row := ageFreshRow, standIns := [], harness := (true, "98d83e297fd116e6335da647c8ce0e5d039e3e35dc7183dcc6d60b6123e3d89d"), looks := true }, kinds := [], alts := [], laidByText := true, laidKinds := [.handle], laidTests := true, laidLooks := .later }
def AgeFreshCardSaid : Prop := Claim7.holds Tryz.pinned (.plain (OpenSpec.ofChange ageFreshSpec)) ageFreshCard

/-- THE TIED CARD OF 'bulkheadlaw26.AgeRates'. -/
def ageRatesCard : Claim7 := { stood := { row := ageRatesRow, standIns := [], harness := (true, "98d83e297fd116e6335da647c8ce0e5d039e3e35dc7183dcc6d60b6123e3d89d"), looks := true }, kinds := [], alts := [], laidByText := true, laidKinds := [.handle], laidTests := true, laidLooks := .later }
def AgeRatesCardSaid : Prop := Claim7.holds Tryz.pinned (.plain (OpenSpec.ofChange ageRatesSpec)) ageRatesCard

/-- THE TIED CARD OF 'bulkheadlaw26.AgeExact'. -/
def ageExactCard : Claim7 := { stood := { row := ageExactRow, standIns := [], harness := (true, "98d83e297fd116e6335da647c8ce0e5d039e3e35dc7183dcc6d60b6123e3d89d"), looks := true }, kinds := [], alts := [], laidByText := true, laidKinds := [.handle], laidTests := true, laidLooks := .later }
def AgeExactCardSaid : Prop := Claim7.holds Tryz.pinned (.plain (OpenSpec.ofChange ageExactSpec)) ageExactCard

/-- THE TIED CARD OF 'bulkheadlaw25.RtaSafe'. -/
def rtaSafeCard : Claim7 := { stood := { row := rtaSafeRow, standIns := [], harness := (true, "98d83e297fd116e6335da647c8ce0e5d039e3e35dc7183dcc6d60b6123e3d89d"), looks := true }, kinds := [], alts := [], laidByText := true, laidKinds := [.handle, .data], laidTests := true, laidLooks := .later }
def RtaSafeCardSaid : Prop := Claim7.holds Tryz.pinned (.plain (OpenSpec.ofChange rtaSafeSpec)) rtaSafeCard

/-- THE TIED CARD OF 'bulkheadlaw25.RtaAbove'. -/
def rtaAboveCard : Claim7 := { stood := { row := rtaAboveRow, standIns := [], harness := (true, "98d83e297fd116e6335da647c8ce0e5d039e3e35dc7183dcc6d60b6123e3d89d"), looks := true }, kinds := [], alts := [], laidByText := true, laidKinds := [.handle, .data], laidTests := true, laidLooks := .later }
def RtaAboveCardSaid : Prop := Claim7.holds Tryz.pinned (.plain (OpenSpec.ofChange rtaAboveSpec)) rtaAboveCard

/-- THE TIED CARD OF 'bulkheadlaw25.RtaGrows'. -/
def rtaGrowsCard : Claim7 := { stood := { row := rtaGrowsRow, standIns := [], harness := (true, "98d83e297fd116e6335da647c8ce0e5d039e3e35dc7183dcc6d60b6123e3d89d"), looks := true }, kinds := [], alts := [], laidByText := true, laidKinds := [.handle, .data], laidTests := true, laidLooks := .later }
def RtaGrowsCardSaid : Prop := Claim7.holds Tryz.pinned (.plain (OpenSpec.ofChange rtaGrowsSpec)) rtaGrowsCard

/-- THE TIED CARD OF 'bulkheadlaw25.RtaTight'. -/
def rtaTightCard : Claim7 := { stood := { row := rtaTightRow, standIns := [], harness := (true, "98d83e297fd116e6335da647c8ce0e5d039e3e35dc7183dcc6d60b6123e3d89d"), looks := true }, kinds := [], alts := [], laidByText := true, laidKinds := [.handle, .data], laidTests := true, laidLooks := .later }
def RtaTightCardSaid : Prop := Claim7.holds Tryz.pinned (.plain (OpenSpec.ofChange rtaTightSpec)) rtaTightCard

/-- THE TIED CARD OF 'bulkheadlaw25.RtaExact'. -/
def rtaExactCard : Claim7 := { stood := { row := rtaExactRow, standIns := [], harness := (true, "98d83e297fd116e6335da647c8ce0e5d039e3e35dc7183dcc6d60b6123e3d89d"), looks := true }, kinds := [], alts := [], laidByText := true, laidKinds := [.handle, .data], laidTests := true, laidLooks := .later }
def RtaExactCardSaid : Prop := Claim7.holds Tryz.pinned (.plain (OpenSpec.ofChange rtaExactSpec)) rtaExactCard

/-- THE TIED CARD OF 'bulkheadlaw12.OnlineExact'. -/
def onlineExactCard : Claim7 := { stood := { row := onlineExactRow, standIns := [], harness := (true, "98d83e297fd116e6335da647c8ce0e5d039e3e35dc7183dcc6d60b6123e3d89d"), looks := true }, kinds := [], alts := [], laidByText := true, laidKinds := [.handle], laidTests := true, laidLooks := .later }
def OnlineExactCardSaid : Prop := Claim7.holds Tryz.pinned (.plain (OpenSpec.ofChange onlineExactSpec)) onlineExactCard

/-- THE TIED CARD OF 'bulkheadlaw12.OnlineFollows'. -/
def onlineFollowsCard : Claim7 := { stood := { row := onlineFollowsRow, standIns := [], harness := (true, "98d83e297fd116e6335da647c8ce0e5d039e3e35dc7183dcc6d60b6123e3d89d"), looks := true }, kinds := [], alts := [], laidByText := true, laidKinds := [.handle], laidTests := true, laidLooks := .later }
def OnlineFollowsCardSaid : Prop := Claim7.holds Tryz.pinned (.plain (OpenSpec.ofChange onlineFollowsSpec)) onlineFollowsCard

/-- THE SECOND FORM's CARD OF 'bulkheadlaw26.AgeFresh'. -/
def ageFreshUptoCard : Claim7 := { stood := { row := ageFreshUptoRow, standIns := [], harness := (true, "98d83e297fd116e6335da647c8ce0e5d039e3e35dc7183dcc6d60b6123e3d89d"), looks := true }, kinds := [], alts := [], laidByText := true, laidKinds := [.handle], laidTests := true, laidLooks := .later }
def AgeFreshUptoCardSaid : Prop := Claim7.holds Tryz.pinned (.plain (OpenSpec.upto ageFreshSpec)) ageFreshUptoCard

/-- THE SECOND FORM's CARD OF 'bulkheadlaw26.AgeRates'. -/
def ageRatesUptoCard : Claim7 := { stood := { row := ageRatesUptoRow, standIns := [], harness := (true, "98d83e297fd116e6335da647c8ce0e5d039e3e35dc7183dcc6d60b6123e3d89d"), looks := true }, kinds := [], alts := [], laidByText := true, laidKinds := [.handle], laidTests := true, laidLooks := .later }
def AgeRatesUptoCardSaid : Prop := Claim7.holds Tryz.pinned (.plain (OpenSpec.upto ageRatesSpec)) ageRatesUptoCard

/-- THE SECOND FORM's CARD OF 'bulkheadlaw26.AgeExact'. -/
def ageExactUptoCard : Claim7 := { stood := { row := ageExactUptoRow, standIns := [], harness := (true, "98d83e297fd116e6335da647c8ce0e5d039e3e35dc7183dcc6d60b6123e3d89d"), looks := true }, kinds := [], alts := [], laidByText := true, laidKinds := [.handle], laidTests := true, laidLooks := .later }
def AgeExactUptoCardSaid : Prop := Claim7.holds Tryz.pinned (.plain (OpenSpec.upto ageExactSpec)) ageExactUptoCard

/-- THE SECOND FORM's CARD OF 'bulkheadlaw25.RtaSafe'. -/
def rtaSafeUptoCard : Claim7 := { stood := { row := rtaSafeUptoRow, standIns := [], harness := (true, "98d83e297fd116e6335da647c8ce0e5d039e3e35dc7183dcc6d60b6123e3d89d"), looks := true }, kinds := [], alts := [], laidByText := true, laidKinds := [.handle, .data], laidTests := true, laidLooks := .later }
def RtaSafeUptoCardSaid : Prop := Claim7.holds Tryz.pinned (.plain (OpenSpec.upto rtaSafeSpec)) rtaSafeUptoCard

/-- THE SECOND FORM's CARD OF 'bulkheadlaw25.RtaAbove'. -/
def rtaAboveUptoCard : Claim7 := { stood := { row := rtaAboveUptoRow, standIns := [], harness := (true, "98d83e297fd116e6335da647c8ce0e5d039e3e35dc7183dcc6d60b6123e3d89d"), looks := true }, kinds := [], alts := [], laidByText := true, laidKinds := [.handle, .data], laidTests := true, laidLooks := .later }
def RtaAboveUptoCardSaid : Prop := Claim7.holds Tryz.pinned (.plain (OpenSpec.upto rtaAboveSpec)) rtaAboveUptoCard

/-- THE SECOND FORM's CARD OF 'bulkheadlaw25.RtaGrows'. -/
def rtaGrowsUptoCard : Claim7 := { stood := { row := rtaGrowsUptoRow, standIns := [], harness := (true, "98d83e297fd116e6335da647c8ce0e5d039e3e35dc7183dcc6d60b6123e3d89d"), looks := true }, kinds := [], alts := [], laidByText := true, laidKinds := [.handle, .data], laidTests := true, laidLooks := .later }
def RtaGrowsUptoCardSaid : Prop := Claim7.holds Tryz.pinned (.plain (OpenSpec.upto rtaGrowsSpec)) rtaGrowsUptoCard

/-- THE SECOND FORM's CARD OF 'bulkheadlaw25.RtaTight'. -/
def rtaTightUptoCard : Claim7 := { stood := { row := rtaTightUptoRow, standIns := [], harness := (true, "98d83e297fd116e6335da647c8ce0e5d039e3e35dc7183dcc6d60b6123e3d89d"), looks := true }, kinds := [], alts := [], laidByText := true, laidKinds := [.handle, .data], laidTests := true, laidLooks := .later }
def RtaTightUptoCardSaid : Prop := Claim7.holds Tryz.pinned (.plain (OpenSpec.upto rtaTightSpec)) rtaTightUptoCard

/-- THE SECOND FORM's CARD OF 'bulkheadlaw25.RtaExact'. -/
def rtaExactUptoCard : Claim7 := { stood := { row := rtaExactUptoRow, standIns := [], harness := (true, "98d83e297fd116e6335da647c8ce0e5d039e3e35dc7183dcc6d60b6123e3d89d"), looks := true }, kinds := [], alts := [], laidByText := true, laidKinds := [.handle, .data], laidTests := true, laidLooks := .later }
def RtaExactUptoCardSaid : Prop := Claim7.holds Tryz.pinned (.plain (OpenSpec.upto rtaExactSpec)) rtaExactUptoCard

/-- THE SECOND FORM's CARD OF 'bulkheadlaw12.OnlineExact'. -/
def onlineExactUptoCard : Claim7 := { stood := { row := onlineExactUptoRow, standIns := [], harness := (true, "98d83e297fd116e6335da647c8ce0e5d039e3e35dc7183dcc6d60b6123e3d89d"), looks := true }, kinds := [], alts := [], laidByText := true, laidKinds := [.handle], laidTests := true, laidLooks := .later }
def OnlineExactUptoCardSaid : Prop := Claim7.holds Tryz.pinned (.plain (OpenSpec.upto onlineExactSpec)) onlineExactUptoCard

/-- THE SECOND FORM's CARD OF 'bulkheadlaw12.OnlineFollows'. -/
def onlineFollowsUptoCard : Claim7 := { stood := { row := onlineFollowsUptoRow, standIns := [], harness := (true, "98d83e297fd116e6335da647c8ce0e5d039e3e35dc7183dcc6d60b6123e3d89d"), looks := true }, kinds := [], alts := [], laidByText := true, laidKinds := [.handle], laidTests := true, laidLooks := .later }
def OnlineFollowsUptoCardSaid : Prop := Claim7.holds Tryz.pinned (.plain (OpenSpec.upto onlineFollowsSpec)) onlineFollowsUptoCard
end Rows
end Go.Proofs.YtekgngedamnmaaaGreatDoor
