/-
  NARROWER THAN 'FOR EVERY INPUT', by the rows' own cells (each row's printed sentence says how): IsaTable: laid · IsaBack: laid · IsaNames: laid · IsaShows: laid · IsaLegal: laid · IsaReads: laid · IsaThere: laid · IsaOneLine: laid.
  DERIVED. THE GIVEN ROWS OF THIS SEAT. 8 by the template 'for every input the law returns true; each argument reads behind the call as it read before'; 0 by the template 'total and deterministic' (their statements: YtcbhkeinmdobhaaDoorTotals.lean).
  GIVEN WITH THE SEED: the statements are not yours to turn. If you find one false, say at which input.
  Laid BY PROGRAM, IN A SANDBOX (cutbox-rows.mjs): the forced cells as the released guide's own fill.sh prints them over the translation 58baab0993df7953… (all of the seat's roots in one cut). By AI agents, Wed Nov 11 2026. No macro, syntax, notation, axiom, sorry.
-/
import Derived.Test.YtcbhkeinmdobhaaDoorChecked
import GoSem.PinnedTables
import GoSem.Claim
import GoSem.ClaimJoined
import GoSem.ClaimMapViews
import Derived.JoinedTies
import Derived.KernelRfl
namespace Go.Proofs.YtcbhkeinmdobhaaDoor
/- THE CELL 'sum', in the pinned program and in every row, IS THE sha256 OF THE DUMP (.gsa) THAT YtcbhkeinmdobhaaDoorProg.lean LOADS. Nothing in Lean hashes anything: it is a label: what it is worth is what the hold of that sum in a sandbox is worth. -/
noncomputable def Tryd.pinned : Pinned := { name := "ytcbhkeinmdobhaadoor", sum := "58baab0993df79534ca93088246cd360707da21ac7affb8dd3649c2cc43f989e", checked := Tryd.checked }
namespace Rows
def none {H : Type} : Left H := { results := [], args := [] }

/- WHAT THE LISTED PACKAGE-LEVEL VARIABLES READ AS WHEN THE CALL BEGINS. Each datum BY PROGRAM (the guide's laid-datum.mjs) off the statement by which the dump's own 'gosem.cut.vars' lays the variable. In a bare row this is a premise. The card (YtcbhkeinmdobhaaDoorCards.lean) ties it to the program's text. -/
def laid_bulkhead_isa_operations {H : Type} : DataW H := .agg [.agg [.lit (.string []), .lit (.string [])], .agg [.lit (.string [110, 111, 112]), .lit (.string [])], .agg [.lit (.string [108, 100, 105]), .lit (.string [97, 110])], .agg [.lit (.string [108, 100, 104]), .lit (.string [97, 110])], .agg [.lit (.string [109, 111, 118]), .lit (.string [97, 98])], .agg [.lit (.string [108, 100]), .lit (.string [97, 98, 110])], .agg [.lit (.string [115, 116]), .lit (.string [97, 98, 110])], .agg [.lit (.string [97, 100, 100]), .lit (.string [97, 98, 99])], .agg [.lit (.string [115, 117, 98]), .lit (.string [97, 98, 99])], .agg [.lit (.string [109, 117, 108]), .lit (.string [97, 98, 99])], .agg [.lit (.string [100, 105, 118]), .lit (.string [97, 98, 99])], .agg [.lit (.string [109, 111, 100]), .lit (.string [97, 98, 99])], .agg [.lit (.string [97, 110, 100]), .lit (.string [97, 98, 99])], .agg [.lit (.string [111, 114]), .lit (.string [97, 98, 99])], .agg [.lit (.string [120, 111, 114]), .lit (.string [97, 98, 99])], .agg [.lit (.string [115, 104, 108]), .lit (.string [97, 98, 99])], .agg [.lit (.string [115, 104, 114]), .lit (.string [97, 98, 99])], .agg [.lit (.string [115, 97, 114]), .lit (.string [97, 98, 99])], .agg [.lit (.string [97, 100, 100, 105]), .lit (.string [97, 98, 110])], .agg [.lit (.string [115, 108, 116]), .lit (.string [97, 98, 99])], .agg [.lit (.string [115, 108, 116, 117]), .lit (.string [97, 98, 99])], .agg [.lit (.string [115, 101, 113]), .lit (.string [97, 98, 99])], .agg [.lit (.string [106, 109, 112]), .lit (.string [112])], .agg [.lit (.string [106, 122]), .lit (.string [97, 112])], .agg [.lit (.string [106, 110, 122]), .lit (.string [97, 112])], .agg [.lit (.string [106, 109, 114]), .lit (.string [97])], .agg [.lit (.string [99, 97, 108, 108]), .lit (.string [112])], .agg [.lit (.string [115, 121, 115]), .lit (.string [110])]]
def laid_math_bits_deBruijn32tab {H : Type} : DataW H := .agg [.lit (.int .u8 0), .lit (.int .u8 1), .lit (.int .u8 28), .lit (.int .u8 2), .lit (.int .u8 29), .lit (.int .u8 14), .lit (.int .u8 24), .lit (.int .u8 3), .lit (.int .u8 30), .lit (.int .u8 22), .lit (.int .u8 20), .lit (.int .u8 15), .lit (.int .u8 25), .lit (.int .u8 17), .lit (.int .u8 4), .lit (.int .u8 8), .lit (.int .u8 31), .lit (.int .u8 27), .lit (.int .u8 13), .lit (.int .u8 23), .lit (.int .u8 21), .lit (.int .u8 19), .lit (.int .u8 16), .lit (.int .u8 7), .lit (.int .u8 26), .lit (.int .u8 12), .lit (.int .u8 18), .lit (.int .u8 6), .lit (.int .u8 11), .lit (.int .u8 5), .lit (.int .u8 10), .lit (.int .u8 9)]
def laid_math_bits_deBruijn64tab {H : Type} : DataW H := .agg [.lit (.int .u8 0), .lit (.int .u8 1), .lit (.int .u8 56), .lit (.int .u8 2), .lit (.int .u8 57), .lit (.int .u8 49), .lit (.int .u8 28), .lit (.int .u8 3), .lit (.int .u8 61), .lit (.int .u8 58), .lit (.int .u8 42), .lit (.int .u8 50), .lit (.int .u8 38), .lit (.int .u8 29), .lit (.int .u8 17), .lit (.int .u8 4), .lit (.int .u8 62), .lit (.int .u8 47), .lit (.int .u8 59), .lit (.int .u8 36), .lit (.int .u8 45), .lit (.int .u8 43), .lit (.int .u8 51), .lit (.int .u8 22), .lit (.int .u8 53), .lit (.int .u8 39), .lit (.int .u8 33), .lit (.int .u8 30), .lit (.int .u8 24), .lit (.int .u8 18), .lit (.int .u8 12), .lit (.int .u8 5), .lit (.int .u8 63), .lit (.int .u8 55), .lit (.int .u8 48), .lit (.int .u8 27), .lit (.int .u8 60), .lit (.int .u8 41), .lit (.int .u8 37), .lit (.int .u8 16), .lit (.int .u8 46), .lit (.int .u8 35), .lit (.int .u8 44), .lit (.int .u8 21), .lit (.int .u8 52), .lit (.int .u8 32), .lit (.int .u8 23), .lit (.int .u8 11), .lit (.int .u8 54), .lit (.int .u8 26), .lit (.int .u8 40), .lit (.int .u8 15), .lit (.int .u8 34), .lit (.int .u8 20), .lit (.int .u8 31), .lit (.int .u8 10), .lit (.int .u8 25), .lit (.int .u8 14), .lit (.int .u8 19), .lit (.int .u8 9), .lit (.int .u8 13), .lit (.int .u8 8), .lit (.int .u8 7), .lit (.int .u8 6)]
def laid_internal_strconv_uint64pow10 {H : Type} : DataW H := .agg [.lit (.int .u64 1), .lit (.int .u64 10), .lit (.int .u64 100), .lit (.int .u64 1000), .lit (.int .u64 10000), .lit (.int .u64 100000), .lit (.int .u64 1000000), .lit (.int .u64 10000000), .lit (.int .u64 100000000), .lit (.int .u64 1000000000), .lit (.int .u64 10000000000), .lit (.int .u64 100000000000), .lit (.int .u64 1000000000000), .lit (.int .u64 10000000000000), .lit (.int .u64 100000000000000), .lit (.int .u64 1000000000000000), .lit (.int .u64 10000000000000000), .lit (.int .u64 100000000000000000), .lit (.int .u64 1000000000000000000), .lit (.int .u64 10000000000000000000)]
def laid_unicode_utf8_acceptRanges {H : Type} : DataW H := .agg [.agg [.lit (.int .u8 128), .lit (.int .u8 191)], .agg [.lit (.int .u8 160), .lit (.int .u8 191)], .agg [.lit (.int .u8 128), .lit (.int .u8 159)], .agg [.lit (.int .u8 144), .lit (.int .u8 191)], .agg [.lit (.int .u8 128), .lit (.int .u8 143)], .agg [.lit (.int .u8 0), .lit (.int .u8 0)], .agg [.lit (.int .u8 0), .lit (.int .u8 0)], .agg [.lit (.int .u8 0), .lit (.int .u8 0)], .agg [.lit (.int .u8 0), .lit (.int .u8 0)], .agg [.lit (.int .u8 0), .lit (.int .u8 0)], .agg [.lit (.int .u8 0), .lit (.int .u8 0)], .agg [.lit (.int .u8 0), .lit (.int .u8 0)], .agg [.lit (.int .u8 0), .lit (.int .u8 0)], .agg [.lit (.int .u8 0), .lit (.int .u8 0)], .agg [.lit (.int .u8 0), .lit (.int .u8 0)], .agg [.lit (.int .u8 0), .lit (.int .u8 0)]]
def laid_strconv_ErrRange {H : Type} : DataW H := .iface "*errors.errorString" (.ptr (.agg [.lit (.string [118, 97, 108, 117, 101, 32, 111, 117, 116, 32, 111, 102, 32, 114, 97, 110, 103, 101])]))
def laid_strconv_ErrSyntax {H : Type} : DataW H := .iface "*errors.errorString" (.ptr (.agg [.lit (.string [105, 110, 118, 97, 108, 105, 100, 32, 115, 121, 110, 116, 97, 120])]))
/-- One of Go's own tables, pinned by name: the form's constant. -/
def laid_unicode_utf8_first : DataW Unit := Go.Pinned.utf8First

/-- 'bulkheadlaw03.IsaTable': WHATEVER THE INPUT: true; the input reads as it did. -/
def isaTableSpec : ChangeSpec := { name := "isaTable", fn := fun _ => fun
  | [d] => { results := [.lit (.bool true)], args := [d] }
  | _ => none }
def isaTableRow : OpenClaim := { program := "ytcbhkeinmdobhaadoor", sum := "58baab0993df79534ca93088246cd360707da21ac7affb8dd3649c2cc43f989e", func := "bulkhead/bulkheadlaw03.IsaTable", spec := "isaTable", named := ["bulkhead/isa.operations"], apart := false, laid := [("bulkhead/isa.operations", laid_bulkhead_isa_operations)] }
def IsaTableSaid : Prop := isaTableRow.holds Tryd.pinned (OpenSpec.ofChange isaTableSpec)

/-- ITS FALSE NEIGHBOUR: 'it returns false'. Refute it at one input. -/
def isaTableWrong : ChangeSpec := { name := "isaTable", fn := fun _ => fun
  | [d] => { results := [.lit (.bool false)], args := [d] }
  | _ => none }
def IsaTableWrongFalsely : Prop := isaTableRow.holds Tryd.pinned (OpenSpec.ofChange isaTableWrong)

/-- 'bulkheadlaw03.IsaBack': WHATEVER THE INPUT: true; the input reads as it did. -/
def isaBackSpec : ChangeSpec := { name := "isaBack", fn := fun _ => fun
  | [d1, d2] => { results := [.lit (.bool true)], args := [d1, d2] }
  | _ => none }
def isaBackRow : OpenClaim := { program := "ytcbhkeinmdobhaadoor", sum := "58baab0993df79534ca93088246cd360707da21ac7affb8dd3649c2cc43f989e", func := "bulkhead/bulkheadlaw03.IsaBack", spec := "isaBack", inPlace := ["internal/abi.NoEscape", "internal/bytealg.MakeNoZero"], named := ["bulkhead/isa.operations", "internal/strconv.uint64pow10", "math/bits.deBruijn32tab", "math/bits.deBruijn64tab"], apart := false, laid := [("math/bits.deBruijn32tab", laid_math_bits_deBruijn32tab), ("math/bits.deBruijn64tab", laid_math_bits_deBruijn64tab), ("internal/strconv.uint64pow10", laid_internal_strconv_uint64pow10), ("bulkhead/isa.operations", laid_bulkhead_isa_operations)] }
def IsaBackSaid : Prop := isaBackRow.holds Tryd.pinned (OpenSpec.ofChange isaBackSpec)

/-- ITS FALSE NEIGHBOUR: 'it returns false'. Refute it at one input. -/
def isaBackWrong : ChangeSpec := { name := "isaBack", fn := fun _ => fun
  | [d1, d2] => { results := [.lit (.bool false)], args := [d1, d2] }
  | _ => none }
def IsaBackWrongFalsely : Prop := isaBackRow.holds Tryd.pinned (OpenSpec.ofChange isaBackWrong)

/-- 'bulkheadlaw03.IsaNames': WHATEVER THE INPUT: true; the input reads as it did. -/
def isaNamesSpec : ChangeSpec := { name := "isaNames", fn := fun _ => fun
  | [d1, d2] => { results := [.lit (.bool true)], args := [d1, d2] }
  | _ => none }
def isaNamesRow : OpenClaim := { program := "ytcbhkeinmdobhaadoor", sum := "58baab0993df79534ca93088246cd360707da21ac7affb8dd3649c2cc43f989e", func := "bulkhead/bulkheadlaw03.IsaNames", spec := "isaNames", inPlace := ["internal/abi.NoEscape", "internal/bytealg.MakeNoZero"], named := ["bulkhead/isa.operations", "internal/strconv.uint64pow10", "math/bits.deBruijn32tab", "math/bits.deBruijn64tab"], apart := false, laid := [("math/bits.deBruijn32tab", laid_math_bits_deBruijn32tab), ("math/bits.deBruijn64tab", laid_math_bits_deBruijn64tab), ("internal/strconv.uint64pow10", laid_internal_strconv_uint64pow10), ("bulkhead/isa.operations", laid_bulkhead_isa_operations)] }
def IsaNamesSaid : Prop := isaNamesRow.holds Tryd.pinned (OpenSpec.ofChange isaNamesSpec)

/-- ITS FALSE NEIGHBOUR: 'it returns false'. Refute it at one input. -/
def isaNamesWrong : ChangeSpec := { name := "isaNames", fn := fun _ => fun
  | [d1, d2] => { results := [.lit (.bool false)], args := [d1, d2] }
  | _ => none }
def IsaNamesWrongFalsely : Prop := isaNamesRow.holds Tryd.pinned (OpenSpec.ofChange isaNamesWrong)

/-- 'bulkheadlaw03.IsaShows': WHATEVER THE INPUT: true; the input reads as it did. -/
def isaShowsSpec : ChangeSpec := { name := "isaShows", fn := fun _ => fun
  | [d] => { results := [.lit (.bool true)], args := [d] }
  | _ => none }
def isaShowsRow : OpenClaim := { program := "ytcbhkeinmdobhaadoor", sum := "58baab0993df79534ca93088246cd360707da21ac7affb8dd3649c2cc43f989e", func := "bulkhead/bulkheadlaw03.IsaShows", spec := "isaShows", inPlace := ["internal/abi.NoEscape", "internal/bytealg.MakeNoZero"], recurses := true, named := ["bulkhead/isa.operations", "internal/strconv.uint64pow10", "math/bits.deBruijn32tab", "math/bits.deBruijn64tab"], apart := false, laid := [("math/bits.deBruijn32tab", laid_math_bits_deBruijn32tab), ("math/bits.deBruijn64tab", laid_math_bits_deBruijn64tab), ("internal/strconv.uint64pow10", laid_internal_strconv_uint64pow10), ("bulkhead/isa.operations", laid_bulkhead_isa_operations)] }
def IsaShowsSaid : Prop := isaShowsRow.holds Tryd.pinned (OpenSpec.ofChange isaShowsSpec)

/-- ITS FALSE NEIGHBOUR: 'it returns false'. Refute it at one input. -/
def isaShowsWrong : ChangeSpec := { name := "isaShows", fn := fun _ => fun
  | [d] => { results := [.lit (.bool false)], args := [d] }
  | _ => none }
def IsaShowsWrongFalsely : Prop := isaShowsRow.holds Tryd.pinned (OpenSpec.ofChange isaShowsWrong)

/-- 'bulkheadlaw03.IsaLegal': WHATEVER THE INPUT: true; the input reads as it did. -/
def isaLegalSpec : ChangeSpec := { name := "isaLegal", fn := fun _ => fun
  | [d] => { results := [.lit (.bool true)], args := [d] }
  | _ => none }
def isaLegalRow : OpenClaim := { program := "ytcbhkeinmdobhaadoor", sum := "58baab0993df79534ca93088246cd360707da21ac7affb8dd3649c2cc43f989e", func := "bulkhead/bulkheadlaw03.IsaLegal", spec := "isaLegal", inPlace := ["internal/abi.NoEscape", "internal/bytealg.MakeNoZero"], named := ["bulkhead/isa.operations", "internal/strconv.uint64pow10", "math/bits.deBruijn32tab", "math/bits.deBruijn64tab"], apart := false, laid := [("math/bits.deBruijn32tab", laid_math_bits_deBruijn32tab), ("math/bits.deBruijn64tab", laid_math_bits_deBruijn64tab), ("internal/strconv.uint64pow10", laid_internal_strconv_uint64pow10), ("bulkhead/isa.operations", laid_bulkhead_isa_operations)] }
def IsaLegalSaid : Prop := isaLegalRow.holds Tryd.pinned (OpenSpec.ofChange isaLegalSpec)

/-- ITS FALSE NEIGHBOUR: 'it returns false'. Refute it at one input. -/
def isaLegalWrong : ChangeSpec := { name := "isaLegal", fn := fun _ => fun
  | [d] => { results := [.lit (.bool false)], args := [d] }
  | _ => none }
def IsaLegalWrongFalsely : Prop := isaLegalRow.holds Tryd.pinned (OpenSpec.ofChange isaLegalWrong)

/-- 'bulkheadlaw03.IsaReads': WHATEVER THE INPUT: true; the input reads as it did. -/
def isaReadsSpec : ChangeSpec := { name := "isaReads", fn := fun _ => fun
  | [d] => { results := [.lit (.bool true)], args := [d] }
  | _ => none }
def isaReadsRow : OpenClaim := { program := "ytcbhkeinmdobhaadoor", sum := "58baab0993df79534ca93088246cd360707da21ac7affb8dd3649c2cc43f989e", func := "bulkhead/bulkheadlaw03.IsaReads", spec := "isaReads", inPlace := ["internal/bytealg.CountString", "internal/bytealg.IndexByteString", "internal/bytealg.IndexString", "internal/abi.NoEscape", "internal/bytealg.MakeNoZero"], recurses := true, named := ["bulkhead/isa.operations", "unicode/utf8.first", "unicode/utf8.acceptRanges", "internal/bytealg.MaxLen", "strconv.ErrSyntax", "strconv.ErrRange", "internal/strconv.uint64pow10", "math/bits.deBruijn32tab", "math/bits.deBruijn64tab"], apart := false, laid := [("math/bits.deBruijn32tab", laid_math_bits_deBruijn32tab), ("math/bits.deBruijn64tab", laid_math_bits_deBruijn64tab), ("internal/strconv.uint64pow10", laid_internal_strconv_uint64pow10), ("unicode/utf8.acceptRanges", laid_unicode_utf8_acceptRanges), ("strconv.ErrRange", laid_strconv_ErrRange), ("strconv.ErrSyntax", laid_strconv_ErrSyntax), ("bulkhead/isa.operations", laid_bulkhead_isa_operations), ("unicode/utf8.first", laid_unicode_utf8_first)] }
def IsaReadsSaid : Prop := isaReadsRow.holds Tryd.pinned (OpenSpec.ofChange isaReadsSpec)

/-- ITS FALSE NEIGHBOUR: 'it returns false'. Refute it at one input. -/
def isaReadsWrong : ChangeSpec := { name := "isaReads", fn := fun _ => fun
  | [d] => { results := [.lit (.bool false)], args := [d] }
  | _ => none }
def IsaReadsWrongFalsely : Prop := isaReadsRow.holds Tryd.pinned (OpenSpec.ofChange isaReadsWrong)

/-- 'bulkheadlaw03.IsaThere': WHATEVER THE INPUT: true; the input reads as it did. -/
def isaThereSpec : ChangeSpec := { name := "isaThere", fn := fun _ => fun
  | [d] => { results := [.lit (.bool true)], args := [d] }
  | _ => none }
def isaThereRow : OpenClaim := { program := "ytcbhkeinmdobhaadoor", sum := "58baab0993df79534ca93088246cd360707da21ac7affb8dd3649c2cc43f989e", func := "bulkhead/bulkheadlaw03.IsaThere", spec := "isaThere", inPlace := ["internal/abi.NoEscape", "internal/bytealg.MakeNoZero", "internal/bytealg.CountString", "internal/bytealg.IndexByteString", "internal/bytealg.IndexString"], named := ["bulkhead/isa.operations", "internal/strconv.uint64pow10", "math/bits.deBruijn32tab", "math/bits.deBruijn64tab", "unicode/utf8.first", "unicode/utf8.acceptRanges", "internal/bytealg.MaxLen", "strconv.ErrSyntax", "strconv.ErrRange"], apart := false, laid := [("math/bits.deBruijn32tab", laid_math_bits_deBruijn32tab), ("math/bits.deBruijn64tab", laid_math_bits_deBruijn64tab), ("internal/strconv.uint64pow10", laid_internal_strconv_uint64pow10), ("unicode/utf8.acceptRanges", laid_unicode_utf8_acceptRanges), ("strconv.ErrRange", laid_strconv_ErrRange), ("strconv.ErrSyntax", laid_strconv_ErrSyntax), ("bulkhead/isa.operations", laid_bulkhead_isa_operations), ("unicode/utf8.first", laid_unicode_utf8_first)] }
def IsaThereSaid : Prop := isaThereRow.holds Tryd.pinned (OpenSpec.ofChange isaThereSpec)

/-- ITS FALSE NEIGHBOUR: 'it returns false'. Refute it at one input. -/
def isaThereWrong : ChangeSpec := { name := "isaThere", fn := fun _ => fun
  | [d] => { results := [.lit (.bool false)], args := [d] }
  | _ => none }
def IsaThereWrongFalsely : Prop := isaThereRow.holds Tryd.pinned (OpenSpec.ofChange isaThereWrong)

/-- 'bulkheadlaw03.IsaOneLine': WHATEVER THE INPUT: true; the input reads as it did. -/
def isaOneLineSpec : ChangeSpec := { name := "isaOneLine", fn := fun _ => fun
  | [d] => { results := [.lit (.bool true)], args := [d] }
  | _ => none }
def isaOneLineRow : OpenClaim := { program := "ytcbhkeinmdobhaadoor", sum := "58baab0993df79534ca93088246cd360707da21ac7affb8dd3649c2cc43f989e", func := "bulkhead/bulkheadlaw03.IsaOneLine", spec := "isaOneLine", inPlace := ["internal/bytealg.CountString", "internal/bytealg.IndexByteString", "internal/bytealg.IndexString", "internal/abi.NoEscape", "internal/bytealg.MakeNoZero"], named := ["bulkhead/isa.operations", "unicode/utf8.first", "unicode/utf8.acceptRanges", "internal/bytealg.MaxLen", "strconv.ErrSyntax", "strconv.ErrRange", "internal/strconv.uint64pow10", "math/bits.deBruijn32tab", "math/bits.deBruijn64tab"], apart := false, laid := [("math/bits.deBruijn32tab", laid_math_bits_deBruijn32tab), ("math/bits.deBruijn64tab", laid_math_bits_deBruijn64tab), ("internal/strconv.uint64pow10", laid_internal_strconv_uint64pow10), ("unicode/utf8.acceptRanges", laid_unicode_utf8_acceptRanges), ("strconv.ErrRange", laid_strconv_ErrRange), ("strconv.ErrSyntax", laid_strconv_ErrSyntax), ("bulkhead/isa.operations", laid_bulkhead_isa_operations), ("unicode/utf8.first", laid_unicode_utf8_first)] }
def IsaOneLineSaid : Prop := isaOneLineRow.holds Tryd.pinned (OpenSpec.ofChange isaOneLineSpec)

/-- ITS FALSE NEIGHBOUR: 'it returns false'. Refute it at one input. -/
def isaOneLineWrong : ChangeSpec := { name := "isaOneLine", fn := fun _ => fun
  | [d] => { results := [.lit (.bool false)], args := [d] }
  | _ => none }
def IsaOneLineWrongFalsely : Prop := isaOneLineRow.holds Tryd.pinned (OpenSpec.ofChange isaOneLineWrong)

/- THE SECOND FORM. 'bulk': how many values and letters a reading holds, each counted each time it is reached (what is shared counts as often as it is met; a slice's spare places count too). A statement '..UptoSaid' is the law's where the arguments, and the package variables that the reading takes, are together of bulk at most 1048576: NARROWER than '..Said'. Prove '..Said' where nothing that the law and all that it calls make is longer than what came in: it says more and counts as full. Else prove '..UptoSaid'. A law counts once. -/
mutual
def uptoBulk {H : Type} : DataW H → Nat
  | .lit (.string bytes) => bytes.length + 1
  | .lit _ => 1
  | .nil => 1
  | .ptr d => uptoBulk d + 1
  | .slice elems spare => uptoBulkAll elems + uptoBulkAll spare + 1
  | .agg parts => uptoBulkAll parts + 1
  | .iface _ d => uptoBulk d + 1
  | .map entries => uptoBulkEntries entries + 1
  | .held _ => 1
def uptoBulkAll {H : Type} : List (DataW H) → Nat
  | [] => 0
  | d :: r => uptoBulk d + uptoBulkAll r
def uptoBulkEntries {H : Type} : List (Lit × DataW H) → Nat
  | [] => 0
  | x :: r => uptoBulkEntry x + uptoBulkEntries r
def uptoBulkEntry {H : Type} : Lit × DataW H → Nat
  | (.string bytes, d) => bytes.length + uptoBulk d + 1
  | (_, d) => uptoBulk d + 1
 end
def uptoSmall : (H : Type) → List (DataW H) → Bool := fun _ ds => decide (uptoBulkAll ds ≤ 1048576)
def OpenSpec.upto (s : _root_.Go.ChangeSpec) : _root_.Go.OpenSpec := { _root_.Go.OpenSpec.ofChange s with cond := some uptoSmall }

/-- 'bulkheadlaw03.IsaTable', WHERE WHAT IT READS IS OF BULK AT MOST 1048576: true; the input reads as it did. -/
def isaTableUptoRow : OpenClaim := { program := "ytcbhkeinmdobhaadoor", sum := "58baab0993df79534ca93088246cd360707da21ac7affb8dd3649c2cc43f989e", func := "bulkhead/bulkheadlaw03.IsaTable", spec := "isaTable", named := ["bulkhead/isa.operations"], apart := false, laid := [("bulkhead/isa.operations", laid_bulkhead_isa_operations)], narrowed := true }
def IsaTableUptoSaid : Prop := isaTableUptoRow.holds Tryd.pinned (OpenSpec.upto isaTableSpec)

/-- 'bulkheadlaw03.IsaBack', WHERE WHAT IT READS IS OF BULK AT MOST 1048576: true; the input reads as it did. -/
def isaBackUptoRow : OpenClaim := { program := "ytcbhkeinmdobhaadoor", sum := "58baab0993df79534ca93088246cd360707da21ac7affb8dd3649c2cc43f989e", func := "bulkhead/bulkheadlaw03.IsaBack", spec := "isaBack", inPlace := ["internal/abi.NoEscape", "internal/bytealg.MakeNoZero"], named := ["bulkhead/isa.operations", "internal/strconv.uint64pow10", "math/bits.deBruijn32tab", "math/bits.deBruijn64tab"], apart := false, laid := [("math/bits.deBruijn32tab", laid_math_bits_deBruijn32tab), ("math/bits.deBruijn64tab", laid_math_bits_deBruijn64tab), ("internal/strconv.uint64pow10", laid_internal_strconv_uint64pow10), ("bulkhead/isa.operations", laid_bulkhead_isa_operations)], narrowed := true }
def IsaBackUptoSaid : Prop := isaBackUptoRow.holds Tryd.pinned (OpenSpec.upto isaBackSpec)

/-- 'bulkheadlaw03.IsaNames', WHERE WHAT IT READS IS OF BULK AT MOST 1048576: true; the input reads as it did. -/
def isaNamesUptoRow : OpenClaim := { program := "ytcbhkeinmdobhaadoor", sum := "58baab0993df79534ca93088246cd360707da21ac7affb8dd3649c2cc43f989e", func := "bulkhead/bulkheadlaw03.IsaNames", spec := "isaNames", inPlace := ["internal/abi.NoEscape", "internal/bytealg.MakeNoZero"], named := ["bulkhead/isa.operations", "internal/strconv.uint64pow10", "math/bits.deBruijn32tab", "math/bits.deBruijn64tab"], apart := false, laid := [("math/bits.deBruijn32tab", laid_math_bits_deBruijn32tab), ("math/bits.deBruijn64tab", laid_math_bits_deBruijn64tab), ("internal/strconv.uint64pow10", laid_internal_strconv_uint64pow10), ("bulkhead/isa.operations", laid_bulkhead_isa_operations)], narrowed := true }
def IsaNamesUptoSaid : Prop := isaNamesUptoRow.holds Tryd.pinned (OpenSpec.upto isaNamesSpec)

/-- 'bulkheadlaw03.IsaShows', WHERE WHAT IT READS IS OF BULK AT MOST 1048576: true; the input reads as it did. -/
def isaShowsUptoRow : OpenClaim := { program := "ytcbhkeinmdobhaadoor", sum := "58baab0993df79534ca93088246cd360707da21ac7affb8dd3649c2cc43f989e", func := "bulkhead/bulkheadlaw03.IsaShows", spec := "isaShows", inPlace := ["internal/abi.NoEscape", "internal/bytealg.MakeNoZero"], recurses := true, named := ["bulkhead/isa.operations", "internal/strconv.uint64pow10", "math/bits.deBruijn32tab", "math/bits.deBruijn64tab"], apart := false, laid := [("math/bits.deBruijn32tab", laid_math_bits_deBruijn32tab), ("math/bits.deBruijn64tab", laid_math_bits_deBruijn64tab), ("internal/strconv.uint64pow10", laid_internal_strconv_uint64pow10), ("bulkhead/isa.operations", laid_bulkhead_isa_operations)], narrowed := true }
def IsaShowsUptoSaid : Prop := isaShowsUptoRow.holds Tryd.pinned (OpenSpec.upto isaShowsSpec)

/-- 'bulkheadlaw03.IsaLegal', WHERE WHAT IT READS IS OF BULK AT MOST 1048576: true; the input reads as it did. -/
def isaLegalUptoRow : OpenClaim := { program := "ytcbhkeinmdobhaadoor", sum := "58baab0993df79534ca93088246cd360707da21ac7affb8dd3649c2cc43f989e", func := "bulkhead/bulkheadlaw03.IsaLegal", spec := "isaLegal", inPlace := ["internal/abi.NoEscape", "internal/bytealg.MakeNoZero"], named := ["bulkhead/isa.operations", "internal/strconv.uint64pow10", "math/bits.deBruijn32tab", "math/bits.deBruijn64tab"], apart := false, laid := [("math/bits.deBruijn32tab", laid_math_bits_deBruijn32tab), ("math/bits.deBruijn64tab", laid_math_bits_deBruijn64tab), ("internal/strconv.uint64pow10", laid_internal_strconv_uint64pow10), ("bulkhead/isa.operations", laid_bulkhead_isa_operations)], narrowed := true }
def IsaLegalUptoSaid : Prop := isaLegalUptoRow.holds Tryd.pinned (OpenSpec.upto isaLegalSpec)

/-- 'bulkheadlaw03.IsaReads', WHERE WHAT IT READS IS OF BULK AT MOST 1048576: true; the input reads as it did. -/
def isaReadsUptoRow : OpenClaim := { program := "ytcbhkeinmdobhaadoor", sum := "58baab0993df79534ca93088246cd360707da21ac7affb8dd3649c2cc43f989e", func := "bulkhead/bulkheadlaw03.IsaReads", spec := "isaReads", inPlace := ["internal/bytealg.CountString", "internal/bytealg.IndexByteString", "internal/bytealg.IndexString", "internal/abi.NoEscape", "internal/bytealg.MakeNoZero"], recurses := true, named := ["bulkhead/isa.operations", "unicode/utf8.first", "unicode/utf8.acceptRanges", "internal/bytealg.MaxLen", "strconv.ErrSyntax", "strconv.ErrRange", "internal/strconv.uint64pow10", "math/bits.deBruijn32tab", "math/bits.deBruijn64tab"], apart := false, laid := [("math/bits.deBruijn32tab", laid_math_bits_deBruijn32tab), ("math/bits.deBruijn64tab", laid_math_bits_deBruijn64tab), ("internal/strconv.uint64pow10", laid_internal_strconv_uint64pow10), ("unicode/utf8.acceptRanges", laid_unicode_utf8_acceptRanges), ("strconv.ErrRange", laid_strconv_ErrRange), ("strconv.ErrSyntax", laid_strconv_ErrSyntax), ("bulkhead/isa.operations", laid_bulkhead_isa_operations), ("unicode/utf8.first", laid_unicode_utf8_first)], narrowed := true }
def IsaReadsUptoSaid : Prop := isaReadsUptoRow.holds Tryd.pinned (OpenSpec.upto isaReadsSpec)

/-- 'bulkheadlaw03.IsaThere', WHERE WHAT IT READS IS OF BULK AT MOST 1048576: true; the input reads as it did. -/
def isaThereUptoRow : OpenClaim := { program := "ytcbhkeinmdobhaadoor", sum := "58baab0993df79534ca93088246cd360707da21ac7affb8dd3649c2cc43f989e", func := "bulkhead/bulkheadlaw03.IsaThere", spec := "isaThere", inPlace := ["internal/abi.NoEscape", "internal/bytealg.MakeNoZero", "internal/bytealg.CountString", "internal/bytealg.IndexByteString", "internal/bytealg.IndexString"], named := ["bulkhead/isa.operations", "internal/strconv.uint64pow10", "math/bits.deBruijn32tab", "math/bits.deBruijn64tab", "unicode/utf8.first", "unicode/utf8.acceptRanges", "internal/bytealg.MaxLen", "strconv.ErrSyntax", "strconv.ErrRange"], apart := false, laid := [("math/bits.deBruijn32tab", laid_math_bits_deBruijn32tab), ("math/bits.deBruijn64tab", laid_math_bits_deBruijn64tab), ("internal/strconv.uint64pow10", laid_internal_strconv_uint64pow10), ("unicode/utf8.acceptRanges", laid_unicode_utf8_acceptRanges), ("strconv.ErrRange", laid_strconv_ErrRange), ("strconv.ErrSyntax", laid_strconv_ErrSyntax), ("bulkhead/isa.operations", laid_bulkhead_isa_operations), ("unicode/utf8.first", laid_unicode_utf8_first)], narrowed := true }
def IsaThereUptoSaid : Prop := isaThereUptoRow.holds Tryd.pinned (OpenSpec.upto isaThereSpec)

/-- 'bulkheadlaw03.IsaOneLine', WHERE WHAT IT READS IS OF BULK AT MOST 1048576: true; the input reads as it did. -/
def isaOneLineUptoRow : OpenClaim := { program := "ytcbhkeinmdobhaadoor", sum := "58baab0993df79534ca93088246cd360707da21ac7affb8dd3649c2cc43f989e", func := "bulkhead/bulkheadlaw03.IsaOneLine", spec := "isaOneLine", inPlace := ["internal/bytealg.CountString", "internal/bytealg.IndexByteString", "internal/bytealg.IndexString", "internal/abi.NoEscape", "internal/bytealg.MakeNoZero"], named := ["bulkhead/isa.operations", "unicode/utf8.first", "unicode/utf8.acceptRanges", "internal/bytealg.MaxLen", "strconv.ErrSyntax", "strconv.ErrRange", "internal/strconv.uint64pow10", "math/bits.deBruijn32tab", "math/bits.deBruijn64tab"], apart := false, laid := [("math/bits.deBruijn32tab", laid_math_bits_deBruijn32tab), ("math/bits.deBruijn64tab", laid_math_bits_deBruijn64tab), ("internal/strconv.uint64pow10", laid_internal_strconv_uint64pow10), ("unicode/utf8.acceptRanges", laid_unicode_utf8_acceptRanges), ("strconv.ErrRange", laid_strconv_ErrRange), ("strconv.ErrSyntax", laid_strconv_ErrSyntax), ("bulkhead/isa.operations", laid_bulkhead_isa_operations), ("unicode/utf8.first", laid_unicode_utf8_first)], narrowed := true }
def IsaOneLineUptoSaid : Prop := isaOneLineUptoRow.holds Tryd.pinned (OpenSpec.upto isaOneLineSpec)

end Rows
end Go.Proofs.YtcbhkeinmdobhaaDoor
