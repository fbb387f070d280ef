/-
  No cell of these rows narrows 'for every input' (looked for: loops, veiled, ifaces, maps, wideKeys, modest, calm, conditions, laid).
  DERIVED. THE GIVEN ROWS OF THIS SEAT. 3 by the template 'for every input the law returns true; each argument reads behind the call as it read before'; 0 by the template 'total and deterministic' (their statements: YtjnnmgjpnbfhlaaTotals.lean).
  GIVEN WITH THE SEED: the statements are not yours to turn. If you find one false, say at which input.
  Laid BY PROGRAM, IN A SANDBOX (cutbox-rows.mjs): the forced cells as the released guide's own fill.sh prints them over the translation 7a61deaf98973f41… (all of the seat's roots in one cut). By AI agents, Wed Nov 11 2026. No macro, syntax, notation, axiom, sorry.
-/
import Derived.Test.YtjnnmgjpnbfhlaaChecked
import GoSem.Claim
import GoSem.ClaimJoined
import GoSem.ClaimMapViews
import Derived.JoinedTies
import Derived.KernelRfl
namespace Go.Proofs.Ytjnnmgjpnbfhlaa
/- THE CELL 'sum', in the pinned program and in every row, IS THE sha256 OF THE DUMP (.gsa) THAT YtjnnmgjpnbfhlaaProg.lean LOADS. Nothing in Lean hashes anything: it is a label: what it is worth is what the hold of that sum in a sandbox is worth. -/
noncomputable def Try.pinned : Pinned := { name := "ytjnnmgjpnbfhlaa", sum := "7a61deaf98973f41d8cf5803f8db7988fbf79a1e74beefcb5c00a176f7b9b8e6", checked := Try.checked }
namespace Rows
def none {H : Type} : Left H := { results := [], args := [] }

/-- 'bulkheadlaw18.ChannelTicks': WHATEVER THE INPUT: true; the input reads as it did. -/
def channelTicksSpec : ChangeSpec := { name := "channelTicks", fn := fun _ => fun
  | [d1, d2] => { results := [.lit (.bool true)], args := [d1, d2] }
  | _ => none }
def channelTicksRow : OpenClaim := { program := "ytjnnmgjpnbfhlaa", sum := "7a61deaf98973f41d8cf5803f8db7988fbf79a1e74beefcb5c00a176f7b9b8e6", func := "bulkhead/bulkheadlaw18.ChannelTicks", spec := "channelTicks", apart := false }
def ChannelTicksSaid : Prop := channelTicksRow.holds Try.pinned (OpenSpec.ofChange channelTicksSpec)

/-- ITS FALSE NEIGHBOUR: 'it returns false'. Refute it at one input. -/
def channelTicksWrong : ChangeSpec := { name := "channelTicks", fn := fun _ => fun
  | [d1, d2] => { results := [.lit (.bool false)], args := [d1, d2] }
  | _ => none }
def ChannelTicksWrongFalsely : Prop := channelTicksRow.holds Try.pinned (OpenSpec.ofChange channelTicksWrong)

/-- 'bulkheadlaw18.ChannelOnce': WHATEVER THE INPUT: true; the input reads as it did. -/
def channelOnceSpec : ChangeSpec := { name := "channelOnce", fn := fun _ => fun
  | [d1, d2, d3, d4, d5, d6] => { results := [.lit (.bool true)], args := [d1, d2, d3, d4, d5, d6] }
  | _ => none }
def channelOnceRow : OpenClaim := { program := "ytjnnmgjpnbfhlaa", sum := "7a61deaf98973f41d8cf5803f8db7988fbf79a1e74beefcb5c00a176f7b9b8e6", func := "bulkhead/bulkheadlaw18.ChannelOnce", spec := "channelOnce", unfollowed := true, recurses := true, apart := false }
def ChannelOnceSaid : Prop := channelOnceRow.holds Try.pinned (OpenSpec.ofChange channelOnceSpec)

/-- ITS FALSE NEIGHBOUR: 'it returns false'. Refute it at one input. -/
def channelOnceWrong : ChangeSpec := { name := "channelOnce", fn := fun _ => fun
  | [d1, d2, d3, d4, d5, d6] => { results := [.lit (.bool false)], args := [d1, d2, d3, d4, d5, d6] }
  | _ => none }
def ChannelOnceWrongFalsely : Prop := channelOnceRow.holds Try.pinned (OpenSpec.ofChange channelOnceWrong)

/-- 'bulkheadlaw18.ChannelMaps': WHATEVER THE INPUT: true; the input reads as it did. -/
def channelMapsSpec : ChangeSpec := { name := "channelMaps", fn := fun _ => fun
  | [d1, d2] => { results := [.lit (.bool true)], args := [d1, d2] }
  | _ => none }
def channelMapsRow : OpenClaim := { program := "ytjnnmgjpnbfhlaa", sum := "7a61deaf98973f41d8cf5803f8db7988fbf79a1e74beefcb5c00a176f7b9b8e6", func := "bulkhead/bulkheadlaw18.ChannelMaps", spec := "channelMaps", unfollowed := true, recurses := true, apart := false }
def ChannelMapsSaid : Prop := channelMapsRow.holds Try.pinned (OpenSpec.ofChange channelMapsSpec)

/-- ITS FALSE NEIGHBOUR: 'it returns false'. Refute it at one input. -/
def channelMapsWrong : ChangeSpec := { name := "channelMaps", fn := fun _ => fun
  | [d1, d2] => { results := [.lit (.bool false)], args := [d1, d2] }
  | _ => none }
def ChannelMapsWrongFalsely : Prop := channelMapsRow.holds Try.pinned (OpenSpec.ofChange channelMapsWrong)

/- THE SECOND FORM. 'bulk': how many values and letters a reading holds, each counted each time it is reached (what is shared counts as often as it is met; a slice's spare places count too). A statement '..UptoSaid' is the law's where the arguments, and the package variables that the reading takes, are together of bulk at most 1048576: NARROWER than '..Said'. Prove '..Said' where nothing that the law and all that it calls make is longer than what came in: it says more and counts as full. Else prove '..UptoSaid'. A law counts once. -/
mutual
def uptoBulk {H : Type} : DataW H → Nat
  | .lit (.string bytes) => bytes.length + 1
  | .lit _ => 1
  | .nil => 1
  | .ptr d => uptoBulk d + 1
  | .slice elems spare => uptoBulkAll elems + uptoBulkAll spare + 1
  | .agg parts => uptoBulkAll parts + 1
  | .iface _ d => uptoBulk d + 1
  | .map entries => uptoBulkEntries entries + 1
  | .held _ => 1
def uptoBulkAll {H : Type} : List (DataW H) → Nat
  | [] => 0
  | d :: r => uptoBulk d + uptoBulkAll r
def uptoBulkEntries {H : Type} : List (Lit × DataW H) → Nat
  | [] => 0
  | x :: r => uptoBulkEntry x + uptoBulkEntries r
def uptoBulkEntry {H : Type} : Lit × DataW H → Nat
  | (.string bytes, d) => bytes.length + uptoBulk d + 1
  | (_, d) => uptoBulk d + 1
 end
def uptoSmall : (H : Type) → List (DataW H) → Bool := fun _ ds => decide (uptoBulkAll ds ≤ 1048576)
def OpenSpec.upto (s : _root_.Go.ChangeSpec) : _root_.Go.OpenSpec := { _root_.Go.OpenSpec.ofChange s with cond := some uptoSmall }

/-- 'bulkheadlaw18.ChannelTicks', WHERE WHAT IT READS IS OF BULK AT MOST 1048576: true; the input reads as it did. -/
def channelTicksUptoRow : OpenClaim := { program := "ytjnnmgjpnbfhlaa", sum := "7a61deaf98973f41d8cf5803f8db7988fbf79a1e74beefcb5c00a176f7b9b8e6", func := "bulkhead/bulkheadlaw18.ChannelTicks", spec := "channelTicks", apart := false, narrowed := true }
def ChannelTicksUptoSaid : Prop := channelTicksUptoRow.holds Try.pinned (OpenSpec.upto channelTicksSpec)

/-- 'bulkheadlaw18.ChannelOnce', WHERE WHAT IT READS IS OF BULK AT MOST 1048576: true; the input reads as it did. -/
def channelOnceUptoRow : OpenClaim := { program := "ytjnnmgjpnbfhlaa", sum := "7a61deaf98973f41d8cf5803f8db7988fbf79a1e74beefcb5c00a176f7b9b8e6", func := "bulkhead/bulkheadlaw18.ChannelOnce", spec := "channelOnce", unfollowed := true, recurses := true, apart := false, narrowed := true }
def ChannelOnceUptoSaid : Prop := channelOnceUptoRow.holds Try.pinned (OpenSpec.upto channelOnceSpec)

/-- 'bulkheadlaw18.ChannelMaps', WHERE WHAT IT READS IS OF BULK AT MOST 1048576: true; the input reads as it did. -/
def channelMapsUptoRow : OpenClaim := { program := "ytjnnmgjpnbfhlaa", sum := "7a61deaf98973f41d8cf5803f8db7988fbf79a1e74beefcb5c00a176f7b9b8e6", func := "bulkhead/bulkheadlaw18.ChannelMaps", spec := "channelMaps", unfollowed := true, recurses := true, apart := false, narrowed := true }
def ChannelMapsUptoSaid : Prop := channelMapsUptoRow.holds Try.pinned (OpenSpec.upto channelMapsSpec)

end Rows
end Go.Proofs.Ytjnnmgjpnbfhlaa
