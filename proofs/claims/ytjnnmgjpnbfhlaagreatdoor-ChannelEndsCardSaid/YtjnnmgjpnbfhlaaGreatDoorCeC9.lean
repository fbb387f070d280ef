import Derived.Test.YtjnnmgjpnbfhlaaGreatDoorCeC8
namespace Go.Proofs.YtjnnmgjpnbfhlaaGreatDoor.L.C
open Go Go.Lift
set_option linter.unusedVariables false
set_option linter.unusedSimpArgs false
set_option maxRecDepth 100000

/-! ### the document's rules of a channel -/
def hits (out : Bool) (t : Int) (d : CH) : Bool := if out then d.2.1 == t else d.2.2.1.any (fun u => u == t)
theorem toB_cons (ps : List PO) (kd : Int) (used : Int → Bool) (prev size t : Int) (ts : List Int) : toB ps kd used prev size (t :: ts) = (wi t 1 (ps.length : Int) && decide (prev < t) && (!(port ps t).2.2.1 && ((port ps t).2.1 == kd) && (size == 0 || (port ps t).2.2.2.1 == size)) && !used t && toB ps kd used t (port ps t).2.2.2.1 ts) := rfl
end Go.Proofs.YtjnnmgjpnbfhlaaGreatDoor.L.C
