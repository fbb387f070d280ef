/-
  NARROWER THAN 'FOR EVERY INPUT', by the rows' own cells (each row's printed sentence says how): AgeFresh: laid · AgeRates: laid · AgeExact: laid · RtaSafe: laid · RtaAbove: laid · RtaGrows: laid · RtaTight: laid · RtaExact: laid · OnlineExact: laid · OnlineFollows: laid.
  DERIVED. THE GIVEN ROWS OF THIS SEAT. 10 by the template 'for every input the law returns true; each argument reads behind the call as it read before'; 0 by the template 'total and deterministic' (their statements: YtekgngedamnmaaaGreatDoorTotals.lean).
  GIVEN WITH THE SEED: the statements are not yours to turn. If you find one false, say at which input.
  Laid BY PROGRAM, IN A SANDBOX (cutbox-rows.mjs): the forced cells as the released guide's own fill.sh prints them over the translation f11150cd9ca28ed2… (all of the seat's roots in one cut). By AI agents, Wed Nov 11 2026. No macro, syntax, notation, axiom, sorry.
-/
import Derived.Test.YtekgngedamnmaaaGreatDoorChecked
import GoSem.Claim
import GoSem.ClaimJoined
import GoSem.ClaimMapViews
import Derived.JoinedTies
import Derived.KernelRfl
namespace Go.Proofs.YtekgngedamnmaaaGreatDoor
/- THE CELL 'sum', in the pinned program and in every row, IS THE sha256 OF THE DUMP (.gsa) THAT YtekgngedamnmaaaGreatDoorProg.lean LOADS. Nothing in Lean hashes anything: it is a label: what it is worth is what the hold of that sum in a sandbox is worth. -/
noncomputable def Tryz.pinned : Pinned := { name := "ytekgngedamnmaaagreatdoor", sum := "f11150cd9ca28ed2fab93bcaf0302b25a00fd235f32a1d45f618ed2b458c5527", checked := Tryz.checked }
namespace Rows
def none {H : Type} : Left H := { results := [], args := [] }

/- WHAT THE LISTED PACKAGE-LEVEL VARIABLES READ AS WHEN THE CALL BEGINS. Each datum BY PROGRAM (the guide's laid-datum.mjs) off the statement by which the dump's own 'gosem.cut.vars' lays the variable. In a bare row this is a premise. The card (YtekgngedamnmaaaGreatDoorCards.lean) ties it to the program's text. -/
def laid_errors_errorType {H : Type} : DataW H := .iface "internal/reflectlite.rtype" (.agg [.ptr (.lit (.string [101, 114, 114, 111, 114]))])
def laid_bulkhead_isa_operations {H : Type} : DataW H := .agg [.agg [.lit (.string []), .lit (.string [])], .agg [.lit (.string [110, 111, 112]), .lit (.string [])], .agg [.lit (.string [108, 100, 105]), .lit (.string [97, 110])], .agg [.lit (.string [108, 100, 104]), .lit (.string [97, 110])], .agg [.lit (.string [109, 111, 118]), .lit (.string [97, 98])], .agg [.lit (.string [108, 100]), .lit (.string [97, 98, 110])], .agg [.lit (.string [115, 116]), .lit (.string [97, 98, 110])], .agg [.lit (.string [97, 100, 100]), .lit (.string [97, 98, 99])], .agg [.lit (.string [115, 117, 98]), .lit (.string [97, 98, 99])], .agg [.lit (.string [109, 117, 108]), .lit (.string [97, 98, 99])], .agg [.lit (.string [100, 105, 118]), .lit (.string [97, 98, 99])], .agg [.lit (.string [109, 111, 100]), .lit (.string [97, 98, 99])], .agg [.lit (.string [97, 110, 100]), .lit (.string [97, 98, 99])], .agg [.lit (.string [111, 114]), .lit (.string [97, 98, 99])], .agg [.lit (.string [120, 111, 114]), .lit (.string [97, 98, 99])], .agg [.lit (.string [115, 104, 108]), .lit (.string [97, 98, 99])], .agg [.lit (.string [115, 104, 114]), .lit (.string [97, 98, 99])], .agg [.lit (.string [115, 97, 114]), .lit (.string [97, 98, 99])], .agg [.lit (.string [97, 100, 100, 105]), .lit (.string [97, 98, 110])], .agg [.lit (.string [115, 108, 116]), .lit (.string [97, 98, 99])], .agg [.lit (.string [115, 108, 116, 117]), .lit (.string [97, 98, 99])], .agg [.lit (.string [115, 101, 113]), .lit (.string [97, 98, 99])], .agg [.lit (.string [106, 109, 112]), .lit (.string [112])], .agg [.lit (.string [106, 122]), .lit (.string [97, 112])], .agg [.lit (.string [106, 110, 122]), .lit (.string [97, 112])], .agg [.lit (.string [106, 109, 114]), .lit (.string [97])], .agg [.lit (.string [99, 97, 108, 108]), .lit (.string [112])], .agg [.lit (.string [115, 121, 115]), .lit (.string [110])]]

/-- 'bulkheadlaw26.AgeFresh': WHATEVER THE INPUT: true; the input reads as it did. -/
def ageFreshSpec : ChangeSpec := { name := "ageFresh", fn := fun _ => fun
  | [d1, d2, d3, d4, d5] => { results := [.lit (.bool true)], args := [d1, d2, d3, d4, d5] }
  | _ => none }
def ageFreshRow : OpenClaim := { program := "ytekgngedamnmaaagreatdoor", sum := "f11150cd9ca28ed2fab93bcaf0302b25a00fd235f32a1d45f618ed2b458c5527", func := "bulkhead/bulkheadlaw26.AgeFresh", spec := "ageFresh", inPlace := ["internal/reflectlite.ValueOf", "(internal/reflectlite.Value).Type", "(internal/reflectlite.Value).IsNil", "internal/reflectlite.TypeOf", "(internal/reflectlite.Value).Elem", "(internal/reflectlite.Value).Set"], unfollowed := true, recurses := true, named := ["errors.errorType"], apart := false, laid := [("errors.errorType", laid_errors_errorType)] }
def AgeFreshSaid : Prop := ageFreshRow.holds Tryz.pinned (OpenSpec.ofChange ageFreshSpec)

/-- ITS FALSE NEIGHBOUR: 'it returns false'. Refute it at one input. -/
def ageFreshWrong : ChangeSpec := { name := "ageFresh", fn := fun _ => fun
  | [d1, d2, d3, d4, d5] => { results := [.lit (.bool false)], args := [d1, d2, d3, d4, d5] }
  | _ => none }
def AgeFreshWrongFalsely : Prop := ageFreshRow.holds Tryz.pinned (OpenSpec.ofChange ageFreshWrong)

/-- 'bulkheadlaw26.AgeRates': WHATEVER THE INPUT: true; the input reads as it did. -/
def ageRatesSpec : ChangeSpec := { name := "ageRates", fn := fun _ => fun
  | [d1, d2, d3, d4] => { results := [.lit (.bool true)], args := [d1, d2, d3, d4] }
  | _ => none }
def ageRatesRow : OpenClaim := { program := "ytekgngedamnmaaagreatdoor", sum := "f11150cd9ca28ed2fab93bcaf0302b25a00fd235f32a1d45f618ed2b458c5527", func := "bulkhead/bulkheadlaw26.AgeRates", spec := "ageRates", inPlace := ["internal/reflectlite.ValueOf", "(internal/reflectlite.Value).Type", "(internal/reflectlite.Value).IsNil", "internal/reflectlite.TypeOf", "(internal/reflectlite.Value).Elem", "(internal/reflectlite.Value).Set"], unfollowed := true, recurses := true, named := ["errors.errorType"], apart := false, laid := [("errors.errorType", laid_errors_errorType)] }
def AgeRatesSaid : Prop := ageRatesRow.holds Tryz.pinned (OpenSpec.ofChange ageRatesSpec)

/-- ITS FALSE NEIGHBOUR: 'it returns false'. Refute it at one input. -/
def ageRatesWrong : ChangeSpec := { name := "ageRates", fn := fun _ => fun
  | [d1, d2, d3, d4] => { results := [.lit (.bool false)], args := [d1, d2, d3, d4] }
  | _ => none }
def AgeRatesWrongFalsely : Prop := ageRatesRow.holds Tryz.pinned (OpenSpec.ofChange ageRatesWrong)

/-- 'bulkheadlaw26.AgeExact': WHATEVER THE INPUT: true; the input reads as it did. -/
def ageExactSpec : ChangeSpec := { name := "ageExact", fn := fun _ => fun
  | [d1, d2, d3] => { results := [.lit (.bool true)], args := [d1, d2, d3] }
  | _ => none }
def ageExactRow : OpenClaim := { program := "ytekgngedamnmaaagreatdoor", sum := "f11150cd9ca28ed2fab93bcaf0302b25a00fd235f32a1d45f618ed2b458c5527", func := "bulkhead/bulkheadlaw26.AgeExact", spec := "ageExact", inPlace := ["internal/reflectlite.ValueOf", "(internal/reflectlite.Value).Type", "(internal/reflectlite.Value).IsNil", "internal/reflectlite.TypeOf", "(internal/reflectlite.Value).Elem", "(internal/reflectlite.Value).Set"], unfollowed := true, recurses := true, named := ["errors.errorType"], apart := false, laid := [("errors.errorType", laid_errors_errorType)] }
def AgeExactSaid : Prop := ageExactRow.holds Tryz.pinned (OpenSpec.ofChange ageExactSpec)

/-- ITS FALSE NEIGHBOUR: 'it returns false'. Refute it at one input. -/
def ageExactWrong : ChangeSpec := { name := "ageExact", fn := fun _ => fun
  | [d1, d2, d3] => { results := [.lit (.bool false)], args := [d1, d2, d3] }
  | _ => none }
def AgeExactWrongFalsely : Prop := ageExactRow.holds Tryz.pinned (OpenSpec.ofChange ageExactWrong)

/-- 'bulkheadlaw25.RtaSafe': WHATEVER THE INPUT: true; the input reads as it did. -/
def rtaSafeSpec : ChangeSpec := { name := "rtaSafe", fn := fun _ => fun
  | [d1, d2, d3, d4] => { results := [.lit (.bool true)], args := [d1, d2, d3, d4] }
  | _ => none }
def rtaSafeRow : OpenClaim := { program := "ytekgngedamnmaaagreatdoor", sum := "f11150cd9ca28ed2fab93bcaf0302b25a00fd235f32a1d45f618ed2b458c5527", func := "bulkhead/bulkheadlaw25.RtaSafe", spec := "rtaSafe", inPlace := ["internal/reflectlite.ValueOf", "(internal/reflectlite.Value).Type", "(internal/reflectlite.Value).IsNil", "internal/reflectlite.TypeOf", "(internal/reflectlite.Value).Elem", "(internal/reflectlite.Value).Set"], unfollowed := true, recurses := true, named := ["errors.errorType", "bulkhead/isa.operations"], apart := false, laid := [("errors.errorType", laid_errors_errorType), ("bulkhead/isa.operations", laid_bulkhead_isa_operations)] }
def RtaSafeSaid : Prop := rtaSafeRow.holds Tryz.pinned (OpenSpec.ofChange rtaSafeSpec)

/-- ITS FALSE NEIGHBOUR: 'it returns false'. Refute it at one input. -/
def rtaSafeWrong : ChangeSpec := { name := "rtaSafe", fn := fun _ => fun
  | [d1, d2, d3, d4] => { results := [.lit (.bool false)], args := [d1, d2, d3, d4] }
  | _ => none }
def RtaSafeWrongFalsely : Prop := rtaSafeRow.holds Tryz.pinned (OpenSpec.ofChange rtaSafeWrong)

/-- 'bulkheadlaw25.RtaAbove': WHATEVER THE INPUT: true; the input reads as it did. -/
def rtaAboveSpec : ChangeSpec := { name := "rtaAbove", fn := fun _ => fun
  | [d1, d2, d3, d4, d5] => { results := [.lit (.bool true)], args := [d1, d2, d3, d4, d5] }
  | _ => none }
def rtaAboveRow : OpenClaim := { program := "ytekgngedamnmaaagreatdoor", sum := "f11150cd9ca28ed2fab93bcaf0302b25a00fd235f32a1d45f618ed2b458c5527", func := "bulkhead/bulkheadlaw25.RtaAbove", spec := "rtaAbove", inPlace := ["internal/reflectlite.ValueOf", "(internal/reflectlite.Value).Type", "(internal/reflectlite.Value).IsNil", "internal/reflectlite.TypeOf", "(internal/reflectlite.Value).Elem", "(internal/reflectlite.Value).Set"], unfollowed := true, recurses := true, named := ["errors.errorType", "bulkhead/isa.operations"], apart := false, laid := [("errors.errorType", laid_errors_errorType), ("bulkhead/isa.operations", laid_bulkhead_isa_operations)] }
def RtaAboveSaid : Prop := rtaAboveRow.holds Tryz.pinned (OpenSpec.ofChange rtaAboveSpec)

/-- ITS FALSE NEIGHBOUR: 'it returns false'. Refute it at one input. -/
def rtaAboveWrong : ChangeSpec := { name := "rtaAbove", fn := fun _ => fun
  | [d1, d2, d3, d4, d5] => { results := [.lit (.bool false)], args := [d1, d2, d3, d4, d5] }
  | _ => none }
def RtaAboveWrongFalsely : Prop := rtaAboveRow.holds Tryz.pinned (OpenSpec.ofChange rtaAboveWrong)

/-- 'bulkheadlaw25.RtaGrows': WHATEVER THE INPUT: true; the input reads as it did. -/
def rtaGrowsSpec : ChangeSpec := { name := "rtaGrows", fn := fun _ => fun
  | [d1, d2, d3, d4] => { results := [.lit (.bool true)], args := [d1, d2, d3, d4] }
  | _ => none }
def rtaGrowsRow : OpenClaim := { program := "ytekgngedamnmaaagreatdoor", sum := "f11150cd9ca28ed2fab93bcaf0302b25a00fd235f32a1d45f618ed2b458c5527", func := "bulkhead/bulkheadlaw25.RtaGrows", spec := "rtaGrows", inPlace := ["internal/reflectlite.ValueOf", "(internal/reflectlite.Value).Type", "(internal/reflectlite.Value).IsNil", "internal/reflectlite.TypeOf", "(internal/reflectlite.Value).Elem", "(internal/reflectlite.Value).Set"], unfollowed := true, recurses := true, named := ["errors.errorType", "bulkhead/isa.operations"], apart := false, laid := [("errors.errorType", laid_errors_errorType), ("bulkhead/isa.operations", laid_bulkhead_isa_operations)] }
def RtaGrowsSaid : Prop := rtaGrowsRow.holds Tryz.pinned (OpenSpec.ofChange rtaGrowsSpec)

/-- ITS FALSE NEIGHBOUR: 'it returns false'. Refute it at one input. -/
def rtaGrowsWrong : ChangeSpec := { name := "rtaGrows", fn := fun _ => fun
  | [d1, d2, d3, d4] => { results := [.lit (.bool false)], args := [d1, d2, d3, d4] }
  | _ => none }
def RtaGrowsWrongFalsely : Prop := rtaGrowsRow.holds Tryz.pinned (OpenSpec.ofChange rtaGrowsWrong)

/-- 'bulkheadlaw25.RtaTight': WHATEVER THE INPUT: true; the input reads as it did. -/
def rtaTightSpec : ChangeSpec := { name := "rtaTight", fn := fun _ => fun
  | [d1, d2, d3] => { results := [.lit (.bool true)], args := [d1, d2, d3] }
  | _ => none }
def rtaTightRow : OpenClaim := { program := "ytekgngedamnmaaagreatdoor", sum := "f11150cd9ca28ed2fab93bcaf0302b25a00fd235f32a1d45f618ed2b458c5527", func := "bulkhead/bulkheadlaw25.RtaTight", spec := "rtaTight", inPlace := ["internal/reflectlite.ValueOf", "(internal/reflectlite.Value).Type", "(internal/reflectlite.Value).IsNil", "internal/reflectlite.TypeOf", "(internal/reflectlite.Value).Elem", "(internal/reflectlite.Value).Set"], unfollowed := true, recurses := true, named := ["errors.errorType", "bulkhead/isa.operations"], apart := false, laid := [("errors.errorType", laid_errors_errorType), ("bulkhead/isa.operations", laid_bulkhead_isa_operations)] }
def RtaTightSaid : Prop := rtaTightRow.holds Tryz.pinned (OpenSpec.ofChange rtaTightSpec)

/-- ITS FALSE NEIGHBOUR: 'it returns false'. Refute it at one input. -/
def rtaTightWrong : ChangeSpec := { name := "rtaTight", fn := fun _ => fun
  | [d1, d2, d3] => { results := [.lit (.bool false)], args := [d1, d2, d3] }
  | _ => none }
def RtaTightWrongFalsely : Prop := rtaTightRow.holds Tryz.pinned (OpenSpec.ofChange rtaTightWrong)

/-- 'bulkheadlaw25.RtaExact': WHATEVER THE INPUT: true; the input reads as it did. -/
def rtaExactSpec : ChangeSpec := { name := "rtaExact", fn := fun _ => fun
  | [d1, d2] => { results := [.lit (.bool true)], args := [d1, d2] }
  | _ => none }
def rtaExactRow : OpenClaim := { program := "ytekgngedamnmaaagreatdoor", sum := "f11150cd9ca28ed2fab93bcaf0302b25a00fd235f32a1d45f618ed2b458c5527", func := "bulkhead/bulkheadlaw25.RtaExact", spec := "rtaExact", inPlace := ["internal/reflectlite.ValueOf", "(internal/reflectlite.Value).Type", "(internal/reflectlite.Value).IsNil", "internal/reflectlite.TypeOf", "(internal/reflectlite.Value).Elem", "(internal/reflectlite.Value).Set"], unfollowed := true, recurses := true, named := ["errors.errorType", "bulkhead/isa.operations"], apart := false, laid := [("errors.errorType", laid_errors_errorType), ("bulkhead/isa.operations", laid_bulkhead_isa_operations)] }
def RtaExactSaid : Prop := rtaExactRow.holds Tryz.pinned (OpenSpec.ofChange rtaExactSpec)

/-- ITS FALSE NEIGHBOUR: 'it returns false'. Refute it at one input. -/
def rtaExactWrong : ChangeSpec := { name := "rtaExact", fn := fun _ => fun
  | [d1, d2] => { results := [.lit (.bool false)], args := [d1, d2] }
  | _ => none }
def RtaExactWrongFalsely : Prop := rtaExactRow.holds Tryz.pinned (OpenSpec.ofChange rtaExactWrong)

/-- 'bulkheadlaw12.OnlineExact': WHATEVER THE INPUT: true; the input reads as it did. -/
def onlineExactSpec : ChangeSpec := { name := "onlineExact", fn := fun _ => fun
  | [d1, d2] => { results := [.lit (.bool true)], args := [d1, d2] }
  | _ => none }
def onlineExactRow : OpenClaim := { program := "ytekgngedamnmaaagreatdoor", sum := "f11150cd9ca28ed2fab93bcaf0302b25a00fd235f32a1d45f618ed2b458c5527", func := "bulkhead/bulkheadlaw12.OnlineExact", spec := "onlineExact", inPlace := ["internal/reflectlite.ValueOf", "(internal/reflectlite.Value).Type", "(internal/reflectlite.Value).IsNil", "internal/reflectlite.TypeOf", "(internal/reflectlite.Value).Elem", "(internal/reflectlite.Value).Set"], unfollowed := true, recurses := true, named := ["errors.errorType"], apart := false, laid := [("errors.errorType", laid_errors_errorType)] }
def OnlineExactSaid : Prop := onlineExactRow.holds Tryz.pinned (OpenSpec.ofChange onlineExactSpec)

/-- ITS FALSE NEIGHBOUR: 'it returns false'. Refute it at one input. -/
def onlineExactWrong : ChangeSpec := { name := "onlineExact", fn := fun _ => fun
  | [d1, d2] => { results := [.lit (.bool false)], args := [d1, d2] }
  | _ => none }
def OnlineExactWrongFalsely : Prop := onlineExactRow.holds Tryz.pinned (OpenSpec.ofChange onlineExactWrong)

/-- 'bulkheadlaw12.OnlineFollows': WHATEVER THE INPUT: true; the input reads as it did. -/
def onlineFollowsSpec : ChangeSpec := { name := "onlineFollows", fn := fun _ => fun
  | [d1, d2, d3] => { results := [.lit (.bool true)], args := [d1, d2, d3] }
  | _ => none }
def onlineFollowsRow : OpenClaim := { program := "ytekgngedamnmaaagreatdoor", sum := "f11150cd9ca28ed2fab93bcaf0302b25a00fd235f32a1d45f618ed2b458c5527", func := "bulkhead/bulkheadlaw12.OnlineFollows", spec := "onlineFollows", inPlace := ["internal/reflectlite.ValueOf", "(internal/reflectlite.Value).Type", "(internal/reflectlite.Value).IsNil", "internal/reflectlite.TypeOf", "(internal/reflectlite.Value).Elem", "(internal/reflectlite.Value).Set"], unfollowed := true, recurses := true, named := ["errors.errorType"], apart := false, laid := [("errors.errorType", laid_errors_errorType)] }
def OnlineFollowsSaid : Prop := onlineFollowsRow.holds Tryz.pinned (OpenSpec.ofChange onlineFollowsSpec)

/-- ITS FALSE NEIGHBOUR: 'it returns false'. Refute it at one input. -/
def onlineFollowsWrong : ChangeSpec := { name := "onlineFollows", fn := fun _ => fun
  | [d1, d2, d3] => { results := [.lit (.bool false)], args := [d1, d2, d3] }
  | _ => none }
def OnlineFollowsWrongFalsely : Prop := onlineFollowsRow.holds Tryz.pinned (OpenSpec.ofChange onlineFollowsWrong)

/- THE SECOND FORM. 'bulk': how many values and letters a reading holds, each counted each time it is reached (what is shared counts as often as it is met; a slice's spare places count too). A statement '..UptoSaid' is the law's where the arguments, and the package variables that the reading takes, are together of bulk at most 1048576: NARROWER than '..Said'. Prove '..Said' where nothing that the law and all that it calls make is longer than what came in: it says more and counts as full. Else prove '..UptoSaid'. A law counts once. -/
mutual
def uptoBulk {H : Type} : DataW H → Nat
  | .lit (.string bytes) => bytes.length + 1
  | .lit _ => 1
  | .nil => 1
  | .ptr d => uptoBulk d + 1
  | .slice elems spare => uptoBulkAll elems + uptoBulkAll spare + 1
  | .agg parts => uptoBulkAll parts + 1
  | .iface _ d => uptoBulk d + 1
  | .map entries => uptoBulkEntries entries + 1
  | .held _ => 1
def uptoBulkAll {H : Type} : List (DataW H) → Nat
  | [] => 0
  | d :: r => uptoBulk d + uptoBulkAll r
def uptoBulkEntries {H : Type} : List (Lit × DataW H) → Nat
  | [] => 0
  | x :: r => uptoBulkEntry x + uptoBulkEntries r
def uptoBulkEntry {H : Type} : Lit × DataW H → Nat
  | (.string bytes, d) => bytes.length + uptoBulk d + 1
  | (_, d) => uptoBulk d + 1
 end
def uptoSmall : (H : Type) → List (DataW H) → Bool := fun _ ds => decide (uptoBulkAll ds ≤ 1048576)
def OpenSpec.upto (s : _root_.Go.ChangeSpec) : _root_.Go.OpenSpec := { _root_.Go.OpenSpec.ofChange s with cond := some uptoSmall }

/-- 'bulkheadlaw26.AgeFresh', WHERE WHAT IT READS IS OF BULK AT MOST 1048576: true; the input reads as it did. -/
def ageFreshUptoRow : OpenClaim := { program := "ytekgngedamnmaaagreatdoor", sum := "f11150cd9ca28ed2fab93bcaf0302b25a00fd235f32a1d45f618ed2b458c5527", func := "bulkhead/bulkheadlaw26.AgeFresh", spec := "ageFresh", inPlace := ["internal/reflectlite.ValueOf", "(internal/reflectlite.Value).Type", "(internal/reflectlite.Value).IsNil", "internal/reflectlite.TypeOf", "(internal/reflectlite.Value).Elem", "(internal/reflectlite.Value).Set"], unfollowed := true, recurses := true, named := ["errors.errorType"], apart := false, laid := [("errors.errorType", laid_errors_errorType)], narrowed := true }
def AgeFreshUptoSaid : Prop := ageFreshUptoRow.holds Tryz.pinned (OpenSpec.upto ageFreshSpec)

/-- 'bulkheadlaw26.AgeRates', WHERE WHAT IT READS IS OF BULK AT MOST 1048576: true; the input reads as it did. -/
def ageRatesUptoRow : OpenClaim := { program := "ytekgngedamnmaaagreatdoor", sum := "f11150cd9ca28ed2fab93bcaf0302b25a00fd235f32a1d45f618ed2b458c5527", func := "bulkhead/bulkheadlaw26.AgeRates", spec := "ageRates", inPlace := ["internal/reflectlite.ValueOf", "(internal/reflectlite.Value).Type", "(internal/reflectlite.Value).IsNil", "internal/reflectlite.TypeOf", "(internal/reflectlite.Value).Elem", "(internal/reflectlite.Value).Set"], unfollowed := true, recurses := true, named := ["errors.errorType"], apart := false, laid := [("errors.errorType", laid_errors_errorType)], narrowed := true }
def AgeRatesUptoSaid : Prop := ageRatesUptoRow.holds Tryz.pinned (OpenSpec.upto ageRatesSpec)

/-- 'bulkheadlaw26.AgeExact', WHERE WHAT IT READS IS OF BULK AT MOST 1048576: true; the input reads as it did. -/
def ageExactUptoRow : OpenClaim := { program := "ytekgngedamnmaaagreatdoor", sum := "f11150cd9ca28ed2fab93bcaf0302b25a00fd235f32a1d45f618ed2b458c5527", func := "bulkhead/bulkheadlaw26.AgeExact", spec := "ageExact", inPlace := ["internal/reflectlite.ValueOf", "(internal/reflectlite.Value).Type", "(internal/reflectlite.Value).IsNil", "internal/reflectlite.TypeOf", "(internal/reflectlite.Value).Elem", "(internal/reflectlite.Value).Set"], unfollowed := true, recurses := true, named := ["errors.errorType"], apart := false, laid := [("errors.errorType", laid_errors_errorType)], narrowed := true }
def AgeExactUptoSaid : Prop := ageExactUptoRow.holds Tryz.pinned (OpenSpec.upto ageExactSpec)

/-- 'bulkheadlaw25.RtaSafe', WHERE WHAT IT READS IS OF BULK AT MOST 1048576: true; the input reads as it did. -/
def rtaSafeUptoRow : OpenClaim := { program := "ytekgngedamnmaaagreatdoor", sum := "f11150cd9ca28ed2fab93bcaf0302b25a00fd235f32a1d45f618ed2b458c5527", func := "bulkhead/bulkheadlaw25.RtaSafe", spec := "rtaSafe", inPlace := ["internal/reflectlite.ValueOf", "(internal/reflectlite.Value).Type", "(internal/reflectlite.Value).IsNil", "internal/reflectlite.TypeOf", "(internal/reflectlite.Value).Elem", "(internal/reflectlite.Value).Set"], unfollowed := true, recurses := true, named := ["errors.errorType", "bulkhead/isa.operations"], apart := false, laid := [("errors.errorType", laid_errors_errorType), ("bulkhead/isa.operations", laid_bulkhead_isa_operations)], narrowed := true }
def RtaSafeUptoSaid : Prop := rtaSafeUptoRow.holds Tryz.pinned (OpenSpec.upto rtaSafeSpec)

/-- 'bulkheadlaw25.RtaAbove', WHERE WHAT IT READS IS OF BULK AT MOST 1048576: true; the input reads as it did. -/
def rtaAboveUptoRow : OpenClaim := { program := "ytekgngedamnmaaagreatdoor", sum := "f11150cd9ca28ed2fab93bcaf0302b25a00fd235f32a1d45f618ed2b458c5527", func := "bulkhead/bulkheadlaw25.RtaAbove", spec := "rtaAbove", inPlace := ["internal/reflectlite.ValueOf", "(internal/reflectlite.Value).Type", "(internal/reflectlite.Value).IsNil", "internal/reflectlite.TypeOf", "(internal/reflectlite.Value).Elem", "(internal/reflectlite.Value).Set"], unfollowed := true, recurses := true, named := ["errors.errorType", "bulkhead/isa.operations"], apart := false, laid := [("errors.errorType", laid_errors_errorType), ("bulkhead/isa.operations", laid_bulkhead_isa_operations)], narrowed := true }
def RtaAboveUptoSaid : Prop := rtaAboveUptoRow.holds Tryz.pinned (OpenSpec.upto rtaAboveSpec)

/-- 'bulkheadlaw25.RtaGrows', WHERE WHAT IT READS IS OF BULK AT MOST 1048576: true; the input reads as it did. -/
def rtaGrowsUptoRow : OpenClaim := { program := "ytekgngedamnmaaagreatdoor", sum := "f11150cd9ca28ed2fab93bcaf0302b25a00fd235f32a1d45f618ed2b458c5527", func := "bulkhead/bulkheadlaw25.RtaGrows", spec := "rtaGrows", inPlace := ["internal/reflectlite.ValueOf", "(internal/reflectlite.Value).Type", "(internal/reflectlite.Value).IsNil", "internal/reflectlite.TypeOf", "(internal/reflectlite.Value).Elem", "(internal/reflectlite.Value).Set"], unfollowed := true, recurses := true, named := ["errors.errorType", "bulkhead/isa.operations"], apart := false, laid := [("errors.errorType", laid_errors_errorType), ("bulkhead/isa.operations", laid_bulkhead_isa_operations)], narrowed := true }
def RtaGrowsUptoSaid : Prop := rtaGrowsUptoRow.holds Tryz.pinned (OpenSpec.upto rtaGrowsSpec)

/-- 'bulkheadlaw25.RtaTight', WHERE WHAT IT READS IS OF BULK AT MOST 1048576: true; the input reads as it did. -/
def rtaTightUptoRow : OpenClaim := { program := "ytekgngedamnmaaagreatdoor", sum := "f11150cd9ca28ed2fab93bcaf0302b25a00fd235f32a1d45f618ed2b458c5527", func := "bulkhead/bulkheadlaw25.RtaTight", spec := "rtaTight", inPlace := ["internal/reflectlite.ValueOf", "(internal/reflectlite.Value).Type", "(internal/reflectlite.Value).IsNil", "internal/reflectlite.TypeOf", "(internal/reflectlite.Value).Elem", "(internal/reflectlite.Value).Set"], unfollowed := true, recurses := true, named := ["errors.errorType", "bulkhead/isa.operations"], apart := false, laid := [("errors.errorType", laid_errors_errorType), ("bulkhead/isa.operations", laid_bulkhead_isa_operations)], narrowed := true }
def RtaTightUptoSaid : Prop := rtaTightUptoRow.holds Tryz.pinned (OpenSpec.upto rtaTightSpec)

/-- 'bulkheadlaw25.RtaExact', WHERE WHAT IT READS IS OF BULK AT MOST 1048576: true; the input reads as it did. -/
def rtaExactUptoRow : OpenClaim := { program := "ytekgngedamnmaaagreatdoor", sum := "f11150cd9ca28ed2fab93bcaf0302b25a00fd235f32a1d45f618ed2b458c5527", func := "bulkhead/bulkheadlaw25.RtaExact", spec := "rtaExact", inPlace := ["internal/reflectlite.ValueOf", "(internal/reflectlite.Value).Type", "(internal/reflectlite.Value).IsNil", "internal/reflectlite.TypeOf", "(internal/reflectlite.Value).Elem", "(internal/reflectlite.Value).Set"], unfollowed := true, recurses := true, named := ["errors.errorType", "bulkhead/isa.operations"], apart := false, laid := [("errors.errorType", laid_errors_errorType), ("bulkhead/isa.operations", laid_bulkhead_isa_operations)], narrowed := true }
def RtaExactUptoSaid : Prop := rtaExactUptoRow.holds Tryz.pinned (OpenSpec.upto rtaExactSpec)

/-- 'bulkheadlaw12.OnlineExact', WHERE WHAT IT READS IS OF BULK AT MOST 1048576: true; the input reads as it did. -/
def onlineExactUptoRow : OpenClaim := { program := "ytekgngedamnmaaagreatdoor", sum := "f11150cd9ca28ed2fab93bcaf0302b25a00fd235f32a1d45f618ed2b458c5527", func := "bulkhead/bulkheadlaw12.OnlineExact", spec := "onlineExact", inPlace := ["internal/reflectlite.ValueOf", "(internal/reflectlite.Value).Type", "(internal/reflectlite.Value).IsNil", "internal/reflectlite.TypeOf", "(internal/reflectlite.Value).Elem", "(internal/reflectlite.Value).Set"], unfollowed := true, recurses := true, named := ["errors.errorType"], apart := false, laid := [("errors.errorType", laid_errors_errorType)], narrowed := true }
def OnlineExactUptoSaid : Prop := onlineExactUptoRow.holds Tryz.pinned (OpenSpec.upto onlineExactSpec)

/-- 'bulkheadlaw12.OnlineFollows', WHERE WHAT IT READS IS OF BULK AT MOST 1048576: true; the input reads as it did. -/
def onlineFollowsUptoRow : OpenClaim := { program := "ytekgngedamnmaaagreatdoor", sum := "f11150cd9ca28ed2fab93bcaf0302b25a00fd235f32a1d45f618ed2b458c5527", func := "bulkhead/bulkheadlaw12.OnlineFollows", spec := "onlineFollows", inPlace := ["internal/reflectlite.ValueOf", "(internal/reflectlite.Value).Type", "(internal/reflectlite.Value).IsNil", "internal/reflectlite.TypeOf", "(internal/reflectlite.Value).Elem", "(internal/reflectlite.Value).Set"], unfollowed := true, recurses := true, named := ["errors.errorType"], apart := false, laid := [("errors.errorType", laid_errors_errorType)], narrowed := true }
def OnlineFollowsUptoSaid : Prop := onlineFollowsUptoRow.holds Tryz.pinned (OpenSpec.upto onlineFollowsSpec)

end Rows
end Go.Proofs.YtekgngedamnmaaaGreatDoor
