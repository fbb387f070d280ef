import Derived.Test.YtcbhkeinmdobhaaDoorSw
namespace Go.Proofs.YtcbhkeinmdobhaaDoor.PReads
open Go.RowKit Go.Proofs.YtcbhkeinmdobhaaDoor
set_option linter.unusedVariables false

/-- the document's Show, by the contract that stands in the texts of IsaShows -/
def bulkheadref03_Show.f (a0_0 a0_1 a0_2 a0_3 a0_4 : Int) : Option (ByteArray × Bool) :=
  if (0 ≤ a0_0 ∧ a0_0 < 256) ∧ 0 ≤ a0_1 ∧ 0 ≤ a0_2 ∧ 0 ≤ a0_3 ∧ -2147483648 ≤ a0_4 ∧ a0_4 ≤ 2147483647 then some (showS a0_0 a0_1 a0_2 a0_3 a0_4, legalB a0_0 a0_1 a0_2 a0_3 a0_4) else none
theorem bulkheadref03_Show.calls (a0_0 a0_1 a0_2 a0_3 a0_4 : Int) (r1 : ByteArray) (r2 : Bool) (w : World) (h : bulkheadref03_Show.f a0_0 a0_1 a0_2 a0_3 a0_4 = some (r1, r2)) :
    Calls Tryd.prog 22 #[.agg #[.int .u8 a0_0, .int .u8 a0_1, .int .u8 a0_2, .int .u8 a0_3, .int .i32 a0_4]] w fun e w' => e = .returned (.tuple #[.string r1, .bool r2]) ∧ Below w.heap.size w w' := by
  unfold bulkheadref03_Show.f at h
  split at h
  · rename_i hc
    injection h with h
    injection h with h1 h2
    subst h1
    subst h2
    exact rshow_any a0_0 a0_1 a0_2 a0_3 a0_4 w hc.1.1 hc.1.2 hc.2.1 hc.2.2.1 hc.2.2.2.1 hc.2.2.2.2.1 hc.2.2.2.2.2
  · cases h
end Go.Proofs.YtcbhkeinmdobhaaDoor.PReads
