/-
  DERIVED. GIVEN WITH THE SEED: THE CARDS: each row of YtjnnmgjpnbfhlaaGreatDoorRows.lean that lists a variable, with what it lists TIED to the program's text (the seventh form; the later family's looks); each row that meets fmt, with fmt's text TOLD by the authors' own Lean function (tested against real Go, not proved from fmt's source: count such statements apart). THE CARD IS WHAT COUNTS. Prove the row's statement (the work); the ties are given (YtjnnmgjpnbfhlaaGreatDoorTie.lean); close each card by the builder's one call (the guide's Derived/Test/ToyasCard.lean, 'card_holds'). Laid BY PROGRAM, IN A SANDBOX (cutbox-door.mjs). By AI agents, Wed Nov 11 2026. No macro, syntax, notation, axiom, sorry.
-/
import Derived.Test.YtjnnmgjpnbfhlaaGreatDoorRows
import GoSem.ClaimSeven
namespace Go.Proofs.YtjnnmgjpnbfhlaaGreatDoor
namespace Rows

/-- THE TIED CARD OF 'bulkheadlaw18.ChannelEnds'. -/
def channelEndsCard : Claim7 := { stood := { row := channelEndsRow, standIns := [], harness := (true, "e68e2870c449df232985f7b05b05aee11d0e22d43ed834964ca99363d9a89ede"), looks := true }, kinds := [], alts := [], laidByText := true, laidKinds := [.handle], laidTests := true, laidLooks := .later }
def ChannelEndsCardSaid : Prop := Claim7.holds Tryz.pinned (.plain (OpenSpec.ofChange channelEndsSpec)) channelEndsCard

/-- THE SECOND FORM's CARD OF 'bulkheadlaw18.ChannelEnds'. -/
def channelEndsUptoCard : Claim7 := { stood := { row := channelEndsUptoRow, standIns := [], harness := (true, "e68e2870c449df232985f7b05b05aee11d0e22d43ed834964ca99363d9a89ede"), looks := true }, kinds := [], alts := [], laidByText := true, laidKinds := [.handle], laidTests := true, laidLooks := .later }
def ChannelEndsUptoCardSaid : Prop := Claim7.holds Tryz.pinned (.plain (OpenSpec.upto channelEndsSpec)) channelEndsUptoCard
end Rows
end Go.Proofs.YtjnnmgjpnbfhlaaGreatDoor
