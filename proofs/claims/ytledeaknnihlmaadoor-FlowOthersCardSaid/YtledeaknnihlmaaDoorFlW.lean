import Derived.Test.YtledeaknnihlmaaDoorFlD
namespace Go.Proofs.YtledeaknnihlmaaDoor.L
open Go Go.Lift
set_option maxRecDepth 100000
theorem works_true (k : Nat) : d24 (k + 30) () = some ((true, ()), ()) := by kernel_rfl
end Go.Proofs.YtledeaknnihlmaaDoor.L
