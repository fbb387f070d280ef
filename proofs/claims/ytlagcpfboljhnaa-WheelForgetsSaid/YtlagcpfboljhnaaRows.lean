/-
  No cell of these rows narrows 'for every input' (looked for: loops, veiled, ifaces, maps, wideKeys, modest, calm, conditions, laid).
  DERIVED. THE GIVEN ROWS OF THIS SEAT. 3 by the template 'for every input the law returns true; each argument reads behind the call as it read before'; 0 by the template 'total and deterministic' (their statements: YtlagcpfboljhnaaTotals.lean).
  GIVEN WITH THE SEED: the statements are not yours to turn. If you find one false, say at which input.
  Laid BY PROGRAM, IN A SANDBOX (cutbox-rows.mjs): the forced cells as the released guide's own fill.sh prints them over the translation 5401fc8651020432… (all of the seat's roots in one cut). By AI agents, Wed Nov 11 2026. No macro, syntax, notation, axiom, sorry.
-/
import Derived.Test.YtlagcpfboljhnaaChecked
import GoSem.Claim
import GoSem.ClaimJoined
import GoSem.ClaimMapViews
import Derived.JoinedTies
import Derived.KernelRfl
namespace Go.Proofs.Ytlagcpfboljhnaa
/- THE CELL 'sum', in the pinned program and in every row, IS THE sha256 OF THE DUMP (.gsa) THAT YtlagcpfboljhnaaProg.lean LOADS. Nothing in Lean hashes anything: it is a label: what it is worth is what the hold of that sum in a sandbox is worth. -/
noncomputable def Try.pinned : Pinned := { name := "ytlagcpfboljhnaa", sum := "5401fc8651020432a4cea93f38c15e4d0a6b87deb57a877ad19567bd669d4a80", checked := Try.checked }
namespace Rows
def none {H : Type} : Left H := { results := [], args := [] }

/-- 'bulkheadlaw07.WheelFires': WHATEVER THE INPUT: true; the input reads as it did. -/
def wheelFiresSpec : ChangeSpec := { name := "wheelFires", fn := fun _ => fun
  | [d1, d2, d3] => { results := [.lit (.bool true)], args := [d1, d2, d3] }
  | _ => none }
def wheelFiresRow : OpenClaim := { program := "ytlagcpfboljhnaa", sum := "5401fc8651020432a4cea93f38c15e4d0a6b87deb57a877ad19567bd669d4a80", func := "bulkhead/bulkheadlaw07.WheelFires", spec := "wheelFires", unfollowed := true, recurses := true, apart := false }
def WheelFiresSaid : Prop := wheelFiresRow.holds Try.pinned (OpenSpec.ofChange wheelFiresSpec)

/-- ITS FALSE NEIGHBOUR: 'it returns false'. Refute it at one input. -/
def wheelFiresWrong : ChangeSpec := { name := "wheelFires", fn := fun _ => fun
  | [d1, d2, d3] => { results := [.lit (.bool false)], args := [d1, d2, d3] }
  | _ => none }
def WheelFiresWrongFalsely : Prop := wheelFiresRow.holds Try.pinned (OpenSpec.ofChange wheelFiresWrong)

/-- 'bulkheadlaw07.WheelForgets': WHATEVER THE INPUT: true; the input reads as it did. -/
def wheelForgetsSpec : ChangeSpec := { name := "wheelForgets", fn := fun _ => fun
  | [d1, d2, d3, d4, d5] => { results := [.lit (.bool true)], args := [d1, d2, d3, d4, d5] }
  | _ => none }
def wheelForgetsRow : OpenClaim := { program := "ytlagcpfboljhnaa", sum := "5401fc8651020432a4cea93f38c15e4d0a6b87deb57a877ad19567bd669d4a80", func := "bulkhead/bulkheadlaw07.WheelForgets", spec := "wheelForgets", unfollowed := true, recurses := true, apart := false }
def WheelForgetsSaid : Prop := wheelForgetsRow.holds Try.pinned (OpenSpec.ofChange wheelForgetsSpec)

/-- ITS FALSE NEIGHBOUR: 'it returns false'. Refute it at one input. -/
def wheelForgetsWrong : ChangeSpec := { name := "wheelForgets", fn := fun _ => fun
  | [d1, d2, d3, d4, d5] => { results := [.lit (.bool false)], args := [d1, d2, d3, d4, d5] }
  | _ => none }
def WheelForgetsWrongFalsely : Prop := wheelForgetsRow.holds Try.pinned (OpenSpec.ofChange wheelForgetsWrong)

/-- 'bulkheadlaw07.WheelExact': WHATEVER THE INPUT: true; the input reads as it did. -/
def wheelExactSpec : ChangeSpec := { name := "wheelExact", fn := fun _ => fun
  | [d1, d2, d3] => { results := [.lit (.bool true)], args := [d1, d2, d3] }
  | _ => none }
def wheelExactRow : OpenClaim := { program := "ytlagcpfboljhnaa", sum := "5401fc8651020432a4cea93f38c15e4d0a6b87deb57a877ad19567bd669d4a80", func := "bulkhead/bulkheadlaw07.WheelExact", spec := "wheelExact", unfollowed := true, recurses := true, apart := false }
def WheelExactSaid : Prop := wheelExactRow.holds Try.pinned (OpenSpec.ofChange wheelExactSpec)

/-- ITS FALSE NEIGHBOUR: 'it returns false'. Refute it at one input. -/
def wheelExactWrong : ChangeSpec := { name := "wheelExact", fn := fun _ => fun
  | [d1, d2, d3] => { results := [.lit (.bool false)], args := [d1, d2, d3] }
  | _ => none }
def WheelExactWrongFalsely : Prop := wheelExactRow.holds Try.pinned (OpenSpec.ofChange wheelExactWrong)

/- THE SECOND FORM. 'bulk': how many values and letters a reading holds, each counted each time it is reached (what is shared counts as often as it is met; a slice's spare places count too). A statement '..UptoSaid' is the law's where the arguments, and the package variables that the reading takes, are together of bulk at most 1048576: NARROWER than '..Said'. Prove '..Said' where nothing that the law and all that it calls make is longer than what came in: it says more and counts as full. Else prove '..UptoSaid'. A law counts once. -/
mutual
def uptoBulk {H : Type} : DataW H → Nat
  | .lit (.string bytes) => bytes.length + 1
  | .lit _ => 1
  | .nil => 1
  | .ptr d => uptoBulk d + 1
  | .slice elems spare => uptoBulkAll elems + uptoBulkAll spare + 1
  | .agg parts => uptoBulkAll parts + 1
  | .iface _ d => uptoBulk d + 1
  | .map entries => uptoBulkEntries entries + 1
  | .held _ => 1
def uptoBulkAll {H : Type} : List (DataW H) → Nat
  | [] => 0
  | d :: r => uptoBulk d + uptoBulkAll r
def uptoBulkEntries {H : Type} : List (Lit × DataW H) → Nat
  | [] => 0
  | x :: r => uptoBulkEntry x + uptoBulkEntries r
def uptoBulkEntry {H : Type} : Lit × DataW H → Nat
  | (.string bytes, d) => bytes.length + uptoBulk d + 1
  | (_, d) => uptoBulk d + 1
 end
def uptoSmall : (H : Type) → List (DataW H) → Bool := fun _ ds => decide (uptoBulkAll ds ≤ 1048576)
def OpenSpec.upto (s : _root_.Go.ChangeSpec) : _root_.Go.OpenSpec := { _root_.Go.OpenSpec.ofChange s with cond := some uptoSmall }

/-- 'bulkheadlaw07.WheelFires', WHERE WHAT IT READS IS OF BULK AT MOST 1048576: true; the input reads as it did. -/
def wheelFiresUptoRow : OpenClaim := { program := "ytlagcpfboljhnaa", sum := "5401fc8651020432a4cea93f38c15e4d0a6b87deb57a877ad19567bd669d4a80", func := "bulkhead/bulkheadlaw07.WheelFires", spec := "wheelFires", unfollowed := true, recurses := true, apart := false, narrowed := true }
def WheelFiresUptoSaid : Prop := wheelFiresUptoRow.holds Try.pinned (OpenSpec.upto wheelFiresSpec)

/-- 'bulkheadlaw07.WheelForgets', WHERE WHAT IT READS IS OF BULK AT MOST 1048576: true; the input reads as it did. -/
def wheelForgetsUptoRow : OpenClaim := { program := "ytlagcpfboljhnaa", sum := "5401fc8651020432a4cea93f38c15e4d0a6b87deb57a877ad19567bd669d4a80", func := "bulkhead/bulkheadlaw07.WheelForgets", spec := "wheelForgets", unfollowed := true, recurses := true, apart := false, narrowed := true }
def WheelForgetsUptoSaid : Prop := wheelForgetsUptoRow.holds Try.pinned (OpenSpec.upto wheelForgetsSpec)

/-- 'bulkheadlaw07.WheelExact', WHERE WHAT IT READS IS OF BULK AT MOST 1048576: true; the input reads as it did. -/
def wheelExactUptoRow : OpenClaim := { program := "ytlagcpfboljhnaa", sum := "5401fc8651020432a4cea93f38c15e4d0a6b87deb57a877ad19567bd669d4a80", func := "bulkhead/bulkheadlaw07.WheelExact", spec := "wheelExact", unfollowed := true, recurses := true, apart := false, narrowed := true }
def WheelExactUptoSaid : Prop := wheelExactUptoRow.holds Try.pinned (OpenSpec.upto wheelExactSpec)

end Rows
end Go.Proofs.Ytlagcpfboljhnaa
