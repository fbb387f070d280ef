import Derived.Test.YtledeaknnihlmaaDoorLiftC
import Derived.Test.YtledeaknnihlmaaDoorProg
import Derived.Lib.SlicesCompact
import Derived.Lib.ItoaNum
namespace Go.Proofs.YtledeaknnihlmaaDoor.L
open Go Go.Lift Go.Proofs
set_option maxRecDepth 100000
set_option linter.unusedVariables false
abbrev IM : Type := ((List ((Int × (Int × (Int × (Int × Unit)))) × (Int × (Int × ((List Int) × ((List (Int × (Int × (Int × (Int × (Int × Unit)))))) × ((List (Int × (Int × (Int × (Int × (Int × (Bool × Unit))))))) × (Int × ((List Int) × ((List (Int × (Int × Unit))) × ((List Bool) × ((List (Int × (Int × Unit))) × Unit)))))))))))) × ((List (Int × (Int × (Bool × (Int × (Int × (Int × Unit))))))) × ((List (Int × (Int × ((List Int) × (Int × (Int × Unit)))))) × Unit)))
abbrev PA : Type := ((Int × (Int × (Int × (Int × Unit)))) × (Int × (Int × ((List Int) × ((List (Int × (Int × (Int × (Int × (Int × Unit)))))) × ((List (Int × (Int × (Int × (Int × (Int × (Bool × Unit))))))) × (Int × ((List Int) × ((List (Int × (Int × Unit))) × ((List Bool) × ((List (Int × (Int × Unit))) × Unit)))))))))))
abbrev PO : Type := (Int × (Int × (Bool × (Int × (Int × (Int × Unit))))))
abbrev CH : Type := (Int × (Int × ((List Int) × (Int × (Int × Unit)))))
def inI (x : Int) : Prop := -9223372036854775808 ≤ x ∧ x ≤ 9223372036854775807
instance (x : Int) : Decidable (inI x) := by unfold inI; infer_instance

/-- bulkhead/bulkheadlaw24.trimmed -/
def s6 : Sig := ⟨[((.pair (.sl 55 (.pair (.pair (.int .i64) (.pair (.int .i64) (.pair (.int .i64) (.pair (.int .i64) .unit)))) (.pair (.int .i64) (.pair (.int .i64) (.pair (.sl 2 (.int .i64)) (.pair (.sl 57 (.pair (.int .u8) (.pair (.int .u8) (.pair (.int .u8) (.pair (.int .u8) (.pair (.int .i32) .unit)))))) (.pair (.sl 94 (.pair (.int .i64) (.pair (.int .i64) (.pair (.int .i64) (.pair (.int .i64) (.pair (.int .i64) (.pair .bool .unit))))))) (.pair (.int .i64) (.pair (.arr 8 (.int .i64)) (.pair (.sl 96 (.pair (.int .i64) (.pair (.int .i64) .unit))) (.pair (.sl 4 .bool) (.pair (.sl 98 (.pair (.int .i64) (.pair (.int .i64) .unit))) .unit)))))))))))) (.pair (.sl 65 (.pair (.int .i64) (.pair (.int .i64) (.pair .bool (.pair (.int .i64) (.pair (.int .i64) (.pair (.int .i64) .unit))))))) (.pair (.sl 62 (.pair (.int .i64) (.pair (.int .i64) (.pair (.sl 3 (.int .i64)) (.pair (.int .i64) (.pair (.int .i64) .unit)))))) .unit))), .val)], [((.pair (.sl 55 (.pair (.pair (.int .i64) (.pair (.int .i64) (.pair (.int .i64) (.pair (.int .i64) .unit)))) (.pair (.int .i64) (.pair (.int .i64) (.pair (.sl 2 (.int .i64)) (.pair (.sl 57 (.pair (.int .u8) (.pair (.int .u8) (.pair (.int .u8) (.pair (.int .u8) (.pair (.int .i32) .unit)))))) (.pair (.sl 94 (.pair (.int .i64) (.pair (.int .i64) (.pair (.int .i64) (.pair (.int .i64) (.pair (.int .i64) (.pair .bool .unit))))))) (.pair (.int .i64) (.pair (.arr 8 (.int .i64)) (.pair (.sl 96 (.pair (.int .i64) (.pair (.int .i64) .unit))) (.pair (.sl 4 .bool) (.pair (.sl 98 (.pair (.int .i64) (.pair (.int .i64) .unit))) .unit)))))))))))) (.pair (.sl 65 (.pair (.int .i64) (.pair (.int .i64) (.pair .bool (.pair (.int .i64) (.pair (.int .i64) (.pair (.int .i64) .unit))))))) (.pair (.sl 62 (.pair (.int .i64) (.pair (.int .i64) (.pair (.sl 3 (.int .i64)) (.pair (.int .i64) (.pair (.int .i64) .unit)))))) .unit))), (.own (.pr .sh (.pr .sh (.pr (.ow .sh) .sh)))))]⟩
 def h6 : Hint := (.seq .leaf
   (.seq (.seq .leaf
   (.cond (some ⟨[((.ptr 26 (.pair (.sl 55 (.pair (.pair (.int .i64) (.pair (.int .i64) (.pair (.int .i64) (.pair (.int .i64) .unit)))) (.pair (.int .i64) (.pair (.int .i64) (.pair (.sl 2 (.int .i64)) (.pair (.sl 57 (.pair (.int .u8) (.pair (.int .u8) (.pair (.int .u8) (.pair (.int .u8) (.pair (.int .i32) .unit)))))) (.pair (.sl 94 (.pair (.int .i64) (.pair (.int .i64) (.pair (.int .i64) (.pair (.int .i64) (.pair (.int .i64) (.pair .bool .unit))))))) (.pair (.int .i64) (.pair (.arr 8 (.int .i64)) (.pair (.sl 96 (.pair (.int .i64) (.pair (.int .i64) .unit))) (.pair (.sl 4 .bool) (.pair (.sl 98 (.pair (.int .i64) (.pair (.int .i64) .unit))) .unit)))))))))))) (.pair (.sl 65 (.pair (.int .i64) (.pair (.int .i64) (.pair .bool (.pair (.int .i64) (.pair (.int .i64) (.pair (.int .i64) .unit))))))) (.pair (.sl 62 (.pair (.int .i64) (.pair (.int .i64) (.pair (.sl 3 (.int .i64)) (.pair (.int .i64) (.pair (.int .i64) .unit)))))) .unit)))), (.ow (.pr .sh .sh)), (1, 0)), ((.ptr 26 (.pair (.sl 55 (.pair (.pair (.int .i64) (.pair (.int .i64) (.pair (.int .i64) (.pair (.int .i64) .unit)))) (.pair (.int .i64) (.pair (.int .i64) (.pair (.sl 2 (.int .i64)) (.pair (.sl 57 (.pair (.int .u8) (.pair (.int .u8) (.pair (.int .u8) (.pair (.int .u8) (.pair (.int .i32) .unit)))))) (.pair (.sl 94 (.pair (.int .i64) (.pair (.int .i64) (.pair (.int .i64) (.pair (.int .i64) (.pair (.int .i64) (.pair .bool .unit))))))) (.pair (.int .i64) (.pair (.arr 8 (.int .i64)) (.pair (.sl 96 (.pair (.int .i64) (.pair (.int .i64) .unit))) (.pair (.sl 4 .bool) (.pair (.sl 98 (.pair (.int .i64) (.pair (.int .i64) .unit))) .unit)))))))))))) (.pair (.sl 65 (.pair (.int .i64) (.pair (.int .i64) (.pair .bool (.pair (.int .i64) (.pair (.int .i64) (.pair (.int .i64) .unit))))))) (.pair (.sl 62 (.pair (.int .i64) (.pair (.int .i64) (.pair (.sl 3 (.int .i64)) (.pair (.int .i64) (.pair (.int .i64) .unit)))))) .unit)))), (.ow (.pr (.ow (.pr .sh (.pr .sh (.pr .sh (.pr (.ow .sh) (.pr (.ow .sh) (.pr (.ow .sh) (.pr .sh (.pr .sh (.pr (.ow .sh) (.pr (.ow .sh) (.pr (.ow .sh) .sh)))))))))))) (.pr (.ow .sh) (.pr (.ow (.pr .sh (.pr .sh (.pr (.ow .sh) .sh)))) .sh)))), (2, 0))], [((1, 0), (.own 0)), ((2, 0), (.own 1))]⟩)
     .leaf
     .leaf))
   (.seq (.seq .leaf
   (.cond (some ⟨[((.ptr 26 (.pair (.sl 55 (.pair (.pair (.int .i64) (.pair (.int .i64) (.pair (.int .i64) (.pair (.int .i64) .unit)))) (.pair (.int .i64) (.pair (.int .i64) (.pair (.sl 2 (.int .i64)) (.pair (.sl 57 (.pair (.int .u8) (.pair (.int .u8) (.pair (.int .u8) (.pair (.int .u8) (.pair (.int .i32) .unit)))))) (.pair (.sl 94 (.pair (.int .i64) (.pair (.int .i64) (.pair (.int .i64) (.pair (.int .i64) (.pair (.int .i64) (.pair .bool .unit))))))) (.pair (.int .i64) (.pair (.arr 8 (.int .i64)) (.pair (.sl 96 (.pair (.int .i64) (.pair (.int .i64) .unit))) (.pair (.sl 4 .bool) (.pair (.sl 98 (.pair (.int .i64) (.pair (.int .i64) .unit))) .unit)))))))))))) (.pair (.sl 65 (.pair (.int .i64) (.pair (.int .i64) (.pair .bool (.pair (.int .i64) (.pair (.int .i64) (.pair (.int .i64) .unit))))))) (.pair (.sl 62 (.pair (.int .i64) (.pair (.int .i64) (.pair (.sl 3 (.int .i64)) (.pair (.int .i64) (.pair (.int .i64) .unit)))))) .unit)))), (.ow (.pr .sh (.pr .sh .sh))), (1, 0)), ((.ptr 26 (.pair (.sl 55 (.pair (.pair (.int .i64) (.pair (.int .i64) (.pair (.int .i64) (.pair (.int .i64) .unit)))) (.pair (.int .i64) (.pair (.int .i64) (.pair (.sl 2 (.int .i64)) (.pair (.sl 57 (.pair (.int .u8) (.pair (.int .u8) (.pair (.int .u8) (.pair (.int .u8) (.pair (.int .i32) .unit)))))) (.pair (.sl 94 (.pair (.int .i64) (.pair (.int .i64) (.pair (.int .i64) (.pair (.int .i64) (.pair (.int .i64) (.pair .bool .unit))))))) (.pair (.int .i64) (.pair (.arr 8 (.int .i64)) (.pair (.sl 96 (.pair (.int .i64) (.pair (.int .i64) .unit))) (.pair (.sl 4 .bool) (.pair (.sl 98 (.pair (.int .i64) (.pair (.int .i64) .unit))) .unit)))))))))))) (.pair (.sl 65 (.pair (.int .i64) (.pair (.int .i64) (.pair .bool (.pair (.int .i64) (.pair (.int .i64) (.pair (.int .i64) .unit))))))) (.pair (.sl 62 (.pair (.int .i64) (.pair (.int .i64) (.pair (.sl 3 (.int .i64)) (.pair (.int .i64) (.pair (.int .i64) .unit)))))) .unit)))), (.ow (.pr (.ow (.pr .sh (.pr .sh (.pr .sh (.pr (.ow .sh) (.pr (.ow .sh) (.pr (.ow .sh) (.pr .sh (.pr .sh (.pr (.ow .sh) (.pr (.ow .sh) (.pr (.ow .sh) .sh)))))))))))) (.pr (.ow .sh) (.pr (.ow (.pr .sh (.pr .sh (.pr (.ow .sh) .sh)))) .sh)))), (2, 0))], [((1, 0), (.own 0)), ((2, 0), (.own 1))]⟩)
     .leaf
     .leaf))
   (.seq .leaf
   (.seq (.seq .leaf
   (.block ⟨[((.ptr 26 (.pair (.sl 55 (.pair (.pair (.int .i64) (.pair (.int .i64) (.pair (.int .i64) (.pair (.int .i64) .unit)))) (.pair (.int .i64) (.pair (.int .i64) (.pair (.sl 2 (.int .i64)) (.pair (.sl 57 (.pair (.int .u8) (.pair (.int .u8) (.pair (.int .u8) (.pair (.int .u8) (.pair (.int .i32) .unit)))))) (.pair (.sl 94 (.pair (.int .i64) (.pair (.int .i64) (.pair (.int .i64) (.pair (.int .i64) (.pair (.int .i64) (.pair .bool .unit))))))) (.pair (.int .i64) (.pair (.arr 8 (.int .i64)) (.pair (.sl 96 (.pair (.int .i64) (.pair (.int .i64) .unit))) (.pair (.sl 4 .bool) (.pair (.sl 98 (.pair (.int .i64) (.pair (.int .i64) .unit))) .unit)))))))))))) (.pair (.sl 65 (.pair (.int .i64) (.pair (.int .i64) (.pair .bool (.pair (.int .i64) (.pair (.int .i64) (.pair (.int .i64) .unit))))))) (.pair (.sl 62 (.pair (.int .i64) (.pair (.int .i64) (.pair (.sl 3 (.int .i64)) (.pair (.int .i64) (.pair (.int .i64) .unit)))))) .unit)))), (.ow (.pr (.ow (.pr .sh (.pr .sh (.pr .sh (.pr (.ow .sh) (.pr (.ow .sh) (.pr (.ow .sh) (.pr .sh (.pr .sh (.pr (.ow .sh) (.pr (.ow .sh) (.pr (.ow .sh) .sh)))))))))))) (.pr (.ow .sh) (.pr (.ow (.pr .sh (.pr .sh (.pr (.ow .sh) .sh)))) .sh)))), (2, 0)), ((.ptr 26 (.pair (.sl 55 (.pair (.pair (.int .i64) (.pair (.int .i64) (.pair (.int .i64) (.pair (.int .i64) .unit)))) (.pair (.int .i64) (.pair (.int .i64) (.pair (.sl 2 (.int .i64)) (.pair (.sl 57 (.pair (.int .u8) (.pair (.int .u8) (.pair (.int .u8) (.pair (.int .u8) (.pair (.int .i32) .unit)))))) (.pair (.sl 94 (.pair (.int .i64) (.pair (.int .i64) (.pair (.int .i64) (.pair (.int .i64) (.pair (.int .i64) (.pair .bool .unit))))))) (.pair (.int .i64) (.pair (.arr 8 (.int .i64)) (.pair (.sl 96 (.pair (.int .i64) (.pair (.int .i64) .unit))) (.pair (.sl 4 .bool) (.pair (.sl 98 (.pair (.int .i64) (.pair (.int .i64) .unit))) .unit)))))))))))) (.pair (.sl 65 (.pair (.int .i64) (.pair (.int .i64) (.pair .bool (.pair (.int .i64) (.pair (.int .i64) (.pair (.int .i64) .unit))))))) (.pair (.sl 62 (.pair (.int .i64) (.pair (.int .i64) (.pair (.sl 3 (.int .i64)) (.pair (.int .i64) (.pair (.int .i64) .unit)))))) .unit)))), (.ow (.pr .sh (.pr .sh .sh))), (1, 0)), ((.sl 62 (.pair (.int .i64) (.pair (.int .i64) (.pair (.sl 3 (.int .i64)) (.pair (.int .i64) (.pair (.int .i64) .unit)))))), (.ow .sh), (3, 0))], [((2, 0), (.own 0)), ((1, 0), (.own 1)), ((3, 0), (.own 2))]⟩ true
     (.loop ⟨[((.sl 62 (.pair (.int .i64) (.pair (.int .i64) (.pair (.sl 3 (.int .i64)) (.pair (.int .i64) (.pair (.int .i64) .unit)))))), (.ow .sh), (3, 0)), ((.ptr 26 (.pair (.sl 55 (.pair (.pair (.int .i64) (.pair (.int .i64) (.pair (.int .i64) (.pair (.int .i64) .unit)))) (.pair (.int .i64) (.pair (.int .i64) (.pair (.sl 2 (.int .i64)) (.pair (.sl 57 (.pair (.int .u8) (.pair (.int .u8) (.pair (.int .u8) (.pair (.int .u8) (.pair (.int .i32) .unit)))))) (.pair (.sl 94 (.pair (.int .i64) (.pair (.int .i64) (.pair (.int .i64) (.pair (.int .i64) (.pair (.int .i64) (.pair .bool .unit))))))) (.pair (.int .i64) (.pair (.arr 8 (.int .i64)) (.pair (.sl 96 (.pair (.int .i64) (.pair (.int .i64) .unit))) (.pair (.sl 4 .bool) (.pair (.sl 98 (.pair (.int .i64) (.pair (.int .i64) .unit))) .unit)))))))))))) (.pair (.sl 65 (.pair (.int .i64) (.pair (.int .i64) (.pair .bool (.pair (.int .i64) (.pair (.int .i64) (.pair (.int .i64) .unit))))))) (.pair (.sl 62 (.pair (.int .i64) (.pair (.int .i64) (.pair (.sl 3 (.int .i64)) (.pair (.int .i64) (.pair (.int .i64) .unit)))))) .unit)))), (.ow (.pr .sh (.pr .sh .sh))), (1, 0)), ((.ptr 26 (.pair (.sl 55 (.pair (.pair (.int .i64) (.pair (.int .i64) (.pair (.int .i64) (.pair (.int .i64) .unit)))) (.pair (.int .i64) (.pair (.int .i64) (.pair (.sl 2 (.int .i64)) (.pair (.sl 57 (.pair (.int .u8) (.pair (.int .u8) (.pair (.int .u8) (.pair (.int .u8) (.pair (.int .i32) .unit)))))) (.pair (.sl 94 (.pair (.int .i64) (.pair (.int .i64) (.pair (.int .i64) (.pair (.int .i64) (.pair (.int .i64) (.pair .bool .unit))))))) (.pair (.int .i64) (.pair (.arr 8 (.int .i64)) (.pair (.sl 96 (.pair (.int .i64) (.pair (.int .i64) .unit))) (.pair (.sl 4 .bool) (.pair (.sl 98 (.pair (.int .i64) (.pair (.int .i64) .unit))) .unit)))))))))))) (.pair (.sl 65 (.pair (.int .i64) (.pair (.int .i64) (.pair .bool (.pair (.int .i64) (.pair (.int .i64) (.pair (.int .i64) .unit))))))) (.pair (.sl 62 (.pair (.int .i64) (.pair (.int .i64) (.pair (.sl 3 (.int .i64)) (.pair (.int .i64) (.pair (.int .i64) .unit)))))) .unit)))), (.ow (.pr (.ow (.pr .sh (.pr .sh (.pr .sh (.pr (.ow .sh) (.pr (.ow .sh) (.pr (.ow .sh) (.pr .sh (.pr .sh (.pr (.ow .sh) (.pr (.ow .sh) (.pr (.ow .sh) .sh)))))))))))) (.pr (.ow .sh) (.pr (.ow (.pr .sh (.pr .sh (.pr (.ow .sh) .sh)))) .sh)))), (2, 0))], [((4, 0), (.val (.int .i64))), ((3, 0), (.own 0)), ((1, 0), (.own 1)), ((2, 0), (.own 2))]⟩
       (.seq (.seq .leaf
       (.cond none
         .leaf
         .leaf))
       (.seq (.block ⟨[((.sl 62 (.pair (.int .i64) (.pair (.int .i64) (.pair (.sl 3 (.int .i64)) (.pair (.int .i64) (.pair (.int .i64) .unit)))))), (.ow .sh), (3, 0)), ((.ptr 26 (.pair (.sl 55 (.pair (.pair (.int .i64) (.pair (.int .i64) (.pair (.int .i64) (.pair (.int .i64) .unit)))) (.pair (.int .i64) (.pair (.int .i64) (.pair (.sl 2 (.int .i64)) (.pair (.sl 57 (.pair (.int .u8) (.pair (.int .u8) (.pair (.int .u8) (.pair (.int .u8) (.pair (.int .i32) .unit)))))) (.pair (.sl 94 (.pair (.int .i64) (.pair (.int .i64) (.pair (.int .i64) (.pair (.int .i64) (.pair (.int .i64) (.pair .bool .unit))))))) (.pair (.int .i64) (.pair (.arr 8 (.int .i64)) (.pair (.sl 96 (.pair (.int .i64) (.pair (.int .i64) .unit))) (.pair (.sl 4 .bool) (.pair (.sl 98 (.pair (.int .i64) (.pair (.int .i64) .unit))) .unit)))))))))))) (.pair (.sl 65 (.pair (.int .i64) (.pair (.int .i64) (.pair .bool (.pair (.int .i64) (.pair (.int .i64) (.pair (.int .i64) .unit))))))) (.pair (.sl 62 (.pair (.int .i64) (.pair (.int .i64) (.pair (.sl 3 (.int .i64)) (.pair (.int .i64) (.pair (.int .i64) .unit)))))) .unit)))), (.ow (.pr .sh (.pr .sh .sh))), (1, 0)), ((.ptr 26 (.pair (.sl 55 (.pair (.pair (.int .i64) (.pair (.int .i64) (.pair (.int .i64) (.pair (.int .i64) .unit)))) (.pair (.int .i64) (.pair (.int .i64) (.pair (.sl 2 (.int .i64)) (.pair (.sl 57 (.pair (.int .u8) (.pair (.int .u8) (.pair (.int .u8) (.pair (.int .u8) (.pair (.int .i32) .unit)))))) (.pair (.sl 94 (.pair (.int .i64) (.pair (.int .i64) (.pair (.int .i64) (.pair (.int .i64) (.pair (.int .i64) (.pair .bool .unit))))))) (.pair (.int .i64) (.pair (.arr 8 (.int .i64)) (.pair (.sl 96 (.pair (.int .i64) (.pair (.int .i64) .unit))) (.pair (.sl 4 .bool) (.pair (.sl 98 (.pair (.int .i64) (.pair (.int .i64) .unit))) .unit)))))))))))) (.pair (.sl 65 (.pair (.int .i64) (.pair (.int .i64) (.pair .bool (.pair (.int .i64) (.pair (.int .i64) (.pair (.int .i64) .unit))))))) (.pair (.sl 62 (.pair (.int .i64) (.pair (.int .i64) (.pair (.sl 3 (.int .i64)) (.pair (.int .i64) (.pair (.int .i64) .unit)))))) .unit)))), (.ow (.pr (.ow (.pr .sh (.pr .sh (.pr .sh (.pr (.ow .sh) (.pr (.ow .sh) (.pr (.ow .sh) (.pr .sh (.pr .sh (.pr (.ow .sh) (.pr (.ow .sh) (.pr (.ow .sh) .sh)))))))))))) (.pr (.ow .sh) (.pr (.ow (.pr .sh (.pr .sh (.pr (.ow .sh) .sh)))) .sh)))), (2, 0))], [((3, 0), (.own 0)), ((1, 0), (.own 1)), ((2, 0), (.own 2)), ((4, 0), (.val (.int .i64)))]⟩ true
         (.seq .leaf
         (.seq (.seq .leaf
         (.cond (some ⟨[((.ptr 26 (.pair (.sl 55 (.pair (.pair (.int .i64) (.pair (.int .i64) (.pair (.int .i64) (.pair (.int .i64) .unit)))) (.pair (.int .i64) (.pair (.int .i64) (.pair (.sl 2 (.int .i64)) (.pair (.sl 57 (.pair (.int .u8) (.pair (.int .u8) (.pair (.int .u8) (.pair (.int .u8) (.pair (.int .i32) .unit)))))) (.pair (.sl 94 (.pair (.int .i64) (.pair (.int .i64) (.pair (.int .i64) (.pair (.int .i64) (.pair (.int .i64) (.pair .bool .unit))))))) (.pair (.int .i64) (.pair (.arr 8 (.int .i64)) (.pair (.sl 96 (.pair (.int .i64) (.pair (.int .i64) .unit))) (.pair (.sl 4 .bool) (.pair (.sl 98 (.pair (.int .i64) (.pair (.int .i64) .unit))) .unit)))))))))))) (.pair (.sl 65 (.pair (.int .i64) (.pair (.int .i64) (.pair .bool (.pair (.int .i64) (.pair (.int .i64) (.pair (.int .i64) .unit))))))) (.pair (.sl 62 (.pair (.int .i64) (.pair (.int .i64) (.pair (.sl 3 (.int .i64)) (.pair (.int .i64) (.pair (.int .i64) .unit)))))) .unit)))), (.ow (.pr .sh (.pr .sh .sh))), (1, 0)), ((.ptr 26 (.pair (.sl 55 (.pair (.pair (.int .i64) (.pair (.int .i64) (.pair (.int .i64) (.pair (.int .i64) .unit)))) (.pair (.int .i64) (.pair (.int .i64) (.pair (.sl 2 (.int .i64)) (.pair (.sl 57 (.pair (.int .u8) (.pair (.int .u8) (.pair (.int .u8) (.pair (.int .u8) (.pair (.int .i32) .unit)))))) (.pair (.sl 94 (.pair (.int .i64) (.pair (.int .i64) (.pair (.int .i64) (.pair (.int .i64) (.pair (.int .i64) (.pair .bool .unit))))))) (.pair (.int .i64) (.pair (.arr 8 (.int .i64)) (.pair (.sl 96 (.pair (.int .i64) (.pair (.int .i64) .unit))) (.pair (.sl 4 .bool) (.pair (.sl 98 (.pair (.int .i64) (.pair (.int .i64) .unit))) .unit)))))))))))) (.pair (.sl 65 (.pair (.int .i64) (.pair (.int .i64) (.pair .bool (.pair (.int .i64) (.pair (.int .i64) (.pair (.int .i64) .unit))))))) (.pair (.sl 62 (.pair (.int .i64) (.pair (.int .i64) (.pair (.sl 3 (.int .i64)) (.pair (.int .i64) (.pair (.int .i64) .unit)))))) .unit)))), (.ow (.pr (.ow (.pr .sh (.pr .sh (.pr .sh (.pr (.ow .sh) (.pr (.ow .sh) (.pr (.ow .sh) (.pr .sh (.pr .sh (.pr (.ow .sh) (.pr (.ow .sh) (.pr (.ow .sh) .sh)))))))))))) (.pr (.ow .sh) (.pr (.ow (.pr .sh (.pr .sh (.pr (.ow .sh) .sh)))) .sh)))), (2, 0)), ((.ptr 62 (.pair (.int .i64) (.pair (.int .i64) (.pair (.sl 3 (.int .i64)) (.pair (.int .i64) (.pair (.int .i64) .unit)))))), (.ow (.pr .sh (.pr .sh (.pr .sh .sh)))), (5, 0)), ((.sl 62 (.pair (.int .i64) (.pair (.int .i64) (.pair (.sl 3 (.int .i64)) (.pair (.int .i64) (.pair (.int .i64) .unit)))))), (.ow .sh), (3, 0))], [((1, 0), (.own 0)), ((2, 0), (.own 1)), ((4, 0), (.val (.int .i64))), ((5, 0), (.own 2)), ((3, 0), (.own 3))]⟩)
           .leaf
           .leaf))
         .leaf)))
       .leaf)))))
   (.seq .leaf
   (.seq .leaf
   .leaf)))))))
def d6_K1  : (((IM × (IM × ((List CH) × Unit))) × Unit) → (Option ((IM × Unit) × Unit))) :=
  (fun (x8 : ((IM × (IM × ((List CH) × Unit))) × Unit)) => (Option.some (((x8.1.2.1.1, (x8.1.2.1.2.1, (x8.1.2.2.1, x8.1.2.1.2.2.2))), ()), ())))
def d6_K2 (x9 : ((((List CH) × (IM × (IM × Unit))) × (Int × Unit)) → (Option ((IM × Unit) × Unit)))) : ((((List CH) × (IM × (IM × Unit))) × (Int × Unit)) → (Option ((IM × Unit) × Unit))) :=
  (fun (x15 : (((List CH) × (IM × (IM × Unit))) × (Int × Unit))) => (x9 ((x15.1.1, (x15.1.2.1, (x15.1.2.2.1, ()))), ((Go.IntKind.wrap Go.IntKind.i64 (x15.2.1 + (1 : Int))), ()))))
def d6_K3 (x15 : ((((List CH) × (IM × (IM × Unit))) × (Int × Unit)) → (Option ((IM × Unit) × Unit)))) : (((IM × (IM × (CH × ((List CH) × Unit)))) × (Int × Unit)) → (Option ((IM × Unit) × Unit))) :=
  (fun (x19 : ((IM × (IM × (CH × ((List CH) × Unit)))) × (Int × Unit))) => (lt (x19.1.2.2.1 :: ([] : List CH)) fun (x20 : (List CH)) =>
  (if ((Go.Lift.appFits (List.length x19.1.2.2.2.1) (List.length x20) (56 : Nat)) = Bool.true) then
  (x15 (((x19.1.2.2.2.1 ++ x20), (x19.1.1, (x19.1.2.1, ()))), (x19.2.1, ())))
  else (Option.none))))
def d6_L4 (x8 : (((IM × (IM × ((List CH) × Unit))) × Unit) → (Option ((IM × Unit) × Unit)))) : (((((List CH) × (IM × (IM × Unit))) × (Int × Unit)) → (Option ((IM × Unit) × Unit))) → ((((List CH) × (IM × (IM × Unit))) × (Int × Unit)) → (Option ((IM × Unit) × Unit)))) :=
  (fun (x9 : ((((List CH) × (IM × (IM × Unit))) × (Int × Unit)) → (Option ((IM × Unit) × Unit)))) => (fun (x10 : (((List CH) × (IM × (IM × Unit))) × (Int × Unit))) => (lt (((List.length x10.1.2.1.2.2.1) : Nat) : Int) fun (x11 : Int) =>
  (lt (Decidable.decide (x10.2.1 < x11)) fun (x12 : Bool) =>
  (lt (Decidable.decide (x10.2.1 < (70 : Int))) fun (x13 : Bool) =>
  (lt (if (x12 = Bool.true) then
  x13
  else Bool.false) fun (x14 : Bool) =>
  (if (x14 = Bool.true) then
  (shr (d6_K2 x9) (fun (x15 : ((((List CH) × (IM × (IM × Unit))) × (Int × Unit)) → (Option ((IM × Unit) × Unit)))) => (if (((Decidable.decide ((0 : Int) ≤ x10.2.1)) && (Decidable.decide (x10.2.1 < (((List.length x10.1.2.1.2.2.1) : Nat) : Int)))) = Bool.true) then
  (lt (List.getD x10.1.2.1.2.2.1 (Int.toNat x10.2.1) ((0 : Int), ((0 : Int), (([] : List Int), ((0 : Int), ((0 : Int), ())))))) fun (x16 : CH) =>
  (lt (((List.length x16.2.2.1) : Nat) : Int) fun (x17 : Int) =>
  (lt (Decidable.decide (x17 > (70 : Int))) fun (x18 : Bool) =>
  (shr (d6_K3 x15) (fun (x19 : (((IM × (IM × (CH × ((List CH) × Unit)))) × (Int × Unit)) → (Option ((IM × Unit) × Unit)))) => (if (x18 = Bool.true) then
  (if ((((Bool.true && (Decidable.decide ((0 : Int) ≤ (70 : Int)))) && (Decidable.decide ((0 : Nat) ≤ (Int.toNat (70 : Int))))) && (Decidable.decide ((Int.toNat (70 : Int)) ≤ (List.length x16.2.2.1)))) = Bool.true) then
  (x19 ((x10.1.2.1, (x10.1.2.2.1, ((x16.1, (x16.2.1, ((List.drop (0 : Nat) (List.take (Int.toNat (70 : Int)) x16.2.2.1)), x16.2.2.2))), (x10.1.1, ())))), (x10.2.1, ())))
  else (Option.none))
  else (x19 ((x10.1.2.1, (x10.1.2.2.1, (x16, (x10.1.1, ())))), (x10.2.1, ())))))))))
  else (Option.none))))
  else (x8 ((x10.1.2.2.1, (x10.1.2.1, (x10.1.1, ()))), ())))))))))
def d6_K5 (x0 : Nat) : (((IM × (IM × Unit)) × Unit) → (Option ((IM × Unit) × Unit))) :=
  (fun (x7 : ((IM × (IM × Unit)) × Unit)) => (shr d6_K1 (fun (x8 : (((IM × (IM × ((List CH) × Unit))) × Unit) → (Option ((IM × Unit) × Unit)))) => (loopN (d6_L4 x8) x0 ((([] : List CH), (x7.1.1, (x7.1.2.1, ()))), ((0 : Int), ()))))))
def d6_K6 (x0 : Nat) : (((IM × (IM × Unit)) × Unit) → (Option ((IM × Unit) × Unit))) :=
  (fun (x4 : ((IM × (IM × Unit)) × Unit)) => (lt (((List.length x4.1.1.2.1) : Nat) : Int) fun (x5 : Int) =>
  (lt (Decidable.decide (x5 > (70 : Int))) fun (x6 : Bool) =>
  (shr (d6_K5 x0) (fun (x7 : (((IM × (IM × Unit)) × Unit) → (Option ((IM × Unit) × Unit)))) => (if (x6 = Bool.true) then
  (if ((((Bool.true && (Decidable.decide ((0 : Int) ≤ (70 : Int)))) && (Decidable.decide ((0 : Nat) ≤ (Int.toNat (70 : Int))))) && (Decidable.decide ((Int.toNat (70 : Int)) ≤ (List.length x4.1.1.2.1)))) = Bool.true) then
  (x7 (((x4.1.1.1, ((List.drop (0 : Nat) (List.take (Int.toNat (70 : Int)) x4.1.1.2.1)), x4.1.1.2.2)), (x4.1.2.1, ())), ()))
  else (Option.none))
  else (x7 ((x4.1.1, (x4.1.2.1, ())), ()))))))))
def d6 : (Nat → ((IM × Unit) → (Option ((IM × Unit) × Unit)))) :=
  (fun (x0 : Nat) => (fun (x1 : (IM × Unit)) => (lt (((List.length x1.1.1) : Nat) : Int) fun (x2 : Int) =>
  (lt (Decidable.decide (x2 > (40 : Int))) fun (x3 : Bool) =>
  (shr (d6_K6 x0) (fun (x4 : (((IM × (IM × Unit)) × Unit) → (Option ((IM × Unit) × Unit)))) => (if (x3 = Bool.true) then
  (if ((((Bool.true && (Decidable.decide ((0 : Int) ≤ (40 : Int)))) && (Decidable.decide ((0 : Nat) ≤ (Int.toNat (40 : Int))))) && (Decidable.decide ((Int.toNat (40 : Int)) ≤ (List.length x1.1.1)))) = Bool.true) then
  (x4 ((((List.drop (0 : Nat) (List.take (Int.toNat (40 : Int)) x1.1.1)), x1.1.2), ((([] : List PA), (([] : List PO), (([] : List CH), ()))), ())), ()))
  else (Option.none))
  else (x4 ((x1.1, ((([] : List PA), (([] : List PO), (([] : List CH), ()))), ())), ())))))))))
theorem k6 : c_fn Tryd.prog [] Tryd.f6 s6 h6 = some d6 := by kernel_rfl
/-- bulkhead/flow.square -/
def s27 : Sig := ⟨[((.int .i64), .val)], [((.sl 43 (.sl 4 .bool)), (.own (.ow (.ow .sh))))]⟩
 def h27 : Hint := (.seq .leaf
   (.seq .leaf
   (.seq (.seq .leaf
   (.block ⟨[((.sl 43 (.sl 4 .bool)), (.ow (.ow .sh)), (3, 0))], [((3, 0), (.own 0))]⟩ true
     (.loop ⟨[((.sl 43 (.sl 4 .bool)), (.ow (.ow .sh)), (3, 0))], [((9, 0), (.val (.int .i64))), ((0, 0), (.val (.int .i64))), ((3, 0), (.own 0)), ((8, 0), (.val (.int .i64)))]⟩
       (.seq .leaf
       (.seq (.cond none
         .leaf
         .leaf)
       (.seq (.block ⟨[((.sl 43 (.sl 4 .bool)), (.ow (.ow .sh)), (3, 0))], [((0, 0), (.val (.int .i64))), ((3, 0), (.own 0)), ((8, 0), (.val (.int .i64))), ((9, 0), (.val (.int .i64)))]⟩ true
         (.seq .leaf
         .leaf))
       .leaf))))))
   (.seq .leaf
   .leaf))))
def d27_K1  : ((((List (List Bool)) × Unit) × Unit) → (Option (((List (List Bool)) × Unit) × Unit))) :=
  (fun (x3 : (((List (List Bool)) × Unit) × Unit)) => (Option.some ((x3.1.1, ()), ())))
def d27_K2 (x4 : ((((List (List Bool)) × Unit) × (Int × (Int × (Int × Unit)))) → (Option (((List (List Bool)) × Unit) × Unit)))) : ((((List (List Bool)) × Unit) × (Int × (Int × (Int × Unit)))) → (Option (((List (List Bool)) × Unit) × Unit))) :=
  (fun (x7 : (((List (List Bool)) × Unit) × (Int × (Int × (Int × Unit))))) => (x4 ((x7.1.1, ()), ((Go.IntKind.wrap Go.IntKind.i64 (x7.2.2.2.1 + (1 : Int))), (x7.2.1, (x7.2.2.1, ()))))))
def d27_L3 (x3 : ((((List (List Bool)) × Unit) × Unit) → (Option (((List (List Bool)) × Unit) × Unit)))) : (((((List (List Bool)) × Unit) × (Int × (Int × (Int × Unit)))) → (Option (((List (List Bool)) × Unit) × Unit))) → ((((List (List Bool)) × Unit) × (Int × (Int × (Int × Unit)))) → (Option (((List (List Bool)) × Unit) × Unit)))) :=
  (fun (x4 : ((((List (List Bool)) × Unit) × (Int × (Int × (Int × Unit)))) → (Option (((List (List Bool)) × Unit) × Unit)))) => (fun (x5 : (((List (List Bool)) × Unit) × (Int × (Int × (Int × Unit))))) => (lt (Decidable.decide (x5.2.1 < x5.2.2.2.1)) fun (x6 : Bool) =>
  (if (x6 = Bool.true) then
  (shr (d27_K2 x4) (fun (x7 : ((((List (List Bool)) × Unit) × (Int × (Int × (Int × Unit)))) → (Option (((List (List Bool)) × Unit) × Unit)))) => (if (((((Decidable.decide ((0 : Int) ≤ x5.2.2.1)) && (Decidable.decide (x5.2.2.1 ≤ x5.2.2.1))) && (Decidable.decide (((((1 : Nat) : Nat) : Int) * x5.2.2.1) ≤ (281474976710656 : Int)))) && (Decidable.decide (x5.2.2.1 ≤ (9223372036854775807 : Int)))) = Bool.true) then
  (lt (List.replicate (Int.toNat x5.2.2.1) Bool.false) fun (x8 : (List Bool)) =>
  (if (((Decidable.decide ((0 : Int) ≤ x5.2.1)) && (Decidable.decide (x5.2.1 < (((List.length x5.1.1) : Nat) : Int)))) = Bool.true) then
  (if (((Decidable.decide ((Int.toNat x5.2.1) < (List.length x5.1.1))) && Bool.true) = Bool.true) then
  (x7 (((List.set x5.1.1 (Int.toNat x5.2.1) x8), ()), (x5.2.2.1, (x5.2.2.2.1, (x5.2.1, ())))))
  else (Option.none))
  else (Option.none)))
  else (Option.none))))
  else (x3 ((x5.1.1, ()), ()))))))
def d27 : (Nat → ((Int × Unit) → (Option (((List (List Bool)) × Unit) × Unit)))) :=
  (fun (x0 : Nat) => (fun (x1 : (Int × Unit)) => (if (((((Decidable.decide ((0 : Int) ≤ x1.1)) && (Decidable.decide (x1.1 ≤ x1.1))) && (Decidable.decide (((((24 : Nat) : Nat) : Int) * x1.1) ≤ (281474976710656 : Int)))) && (Decidable.decide (x1.1 ≤ (9223372036854775807 : Int)))) = Bool.true) then
  (lt (List.replicate (Int.toNat x1.1) ([] : List Bool)) fun (x2 : (List (List Bool))) =>
  (shr d27_K1 (fun (x3 : ((((List (List Bool)) × Unit) × Unit) → (Option (((List (List Bool)) × Unit) × Unit)))) => (loopN (d27_L3 x3) x0 ((x2, ()), ((0 : Int), (x1.1, ((((List.length x2) : Nat) : Int), ()))))))))
  else (Option.none))))
theorem k27 : c_fn Tryd.prog [] Tryd.f27 s27 h27 = some d27 := by kernel_rfl
/-- bulkhead/channel.part -/
def s50 : Sig := ⟨[((.pair (.sl 55 (.pair (.pair (.int .i64) (.pair (.int .i64) (.pair (.int .i64) (.pair (.int .i64) .unit)))) (.pair (.int .i64) (.pair (.int .i64) (.pair (.sl 2 (.int .i64)) (.pair (.sl 57 (.pair (.int .u8) (.pair (.int .u8) (.pair (.int .u8) (.pair (.int .u8) (.pair (.int .i32) .unit)))))) (.pair (.sl 94 (.pair (.int .i64) (.pair (.int .i64) (.pair (.int .i64) (.pair (.int .i64) (.pair (.int .i64) (.pair .bool .unit))))))) (.pair (.int .i64) (.pair (.arr 8 (.int .i64)) (.pair (.sl 96 (.pair (.int .i64) (.pair (.int .i64) .unit))) (.pair (.sl 4 .bool) (.pair (.sl 98 (.pair (.int .i64) (.pair (.int .i64) .unit))) .unit)))))))))))) (.pair (.sl 65 (.pair (.int .i64) (.pair (.int .i64) (.pair .bool (.pair (.int .i64) (.pair (.int .i64) (.pair (.int .i64) .unit))))))) (.pair (.sl 62 (.pair (.int .i64) (.pair (.int .i64) (.pair (.sl 3 (.int .i64)) (.pair (.int .i64) (.pair (.int .i64) .unit)))))) .unit))), .val), ((.int .i64), .val)], [((.int .i64), .val)]⟩
 def h50 : Hint := (.seq .leaf
   (.seq (.seq .leaf
   (.cond none
     (.seq .leaf
     .leaf)
     .leaf))
   (.seq .leaf
   .leaf)))
def d50 : (Nat → ((IM × (Int × Unit)) → (Option ((Int × Unit) × Unit)))) :=
  (fun (x0 : Nat) => (fun (x1 : (IM × (Int × Unit))) => (lt (Decidable.decide (x1.2.1 < (1 : Int))) fun (x2 : Bool) =>
  (lt (((List.length x1.1.2.1) : Nat) : Int) fun (x3 : Int) =>
  (lt (Decidable.decide (x1.2.1 > x3)) fun (x4 : Bool) =>
  (lt (if (x2 = Bool.true) then
  Bool.true
  else x4) fun (x5 : Bool) =>
  (if (x5 = Bool.true) then
  (Option.some (((0 : Int), ()), ()))
  else (lt (Go.IntKind.wrap Go.IntKind.i64 (x1.2.1 - (1 : Int))) fun (x6 : Int) =>
  (if (((Decidable.decide ((0 : Int) ≤ x6)) && (Decidable.decide (x6 < (((List.length x1.1.2.1) : Nat) : Int)))) = Bool.true) then
  (Option.some (((List.getD x1.1.2.1 (Int.toNat x6) ((0 : Int), ((0 : Int), (Bool.false, ((0 : Int), ((0 : Int), ((0 : Int), ()))))))).1, ()), ()))
  else (Option.none))))))))))
theorem k50 : c_fn Tryd.prog [] Tryd.f50 s50 h50 = some d50 := by kernel_rfl
/-- slices.Sort[[]int,int] -/
def s51 : Sig := ⟨[((.sl 3 (.int .i64)), (.mut (.ow .sh)))], []⟩
def d51 (_ : Nat) (x : List Int × Unit) : Option (Unit × List Int × Unit) := if x.1.length < 4611686018427387904 then some ((), (x.1.mergeSort fun x y => decide (x ≤ y), ())) else none
/-- slices.Compact[[]int,int] -/
def s52 : Sig := ⟨[((.sl 3 (.int .i64)), (.tak (.ow .sh)))], [((.sl 3 (.int .i64)), (.own (.ow .sh)))]⟩
def d52 (_ : Nat) (x : List Int × Unit) : Option ((List Int × Unit) × Unit) := some ((Lib.compact x.1, ()), ())
/-- bulkhead/channel.Parts -/
def s28 : Sig := ⟨[((.pair (.sl 55 (.pair (.pair (.int .i64) (.pair (.int .i64) (.pair (.int .i64) (.pair (.int .i64) .unit)))) (.pair (.int .i64) (.pair (.int .i64) (.pair (.sl 2 (.int .i64)) (.pair (.sl 57 (.pair (.int .u8) (.pair (.int .u8) (.pair (.int .u8) (.pair (.int .u8) (.pair (.int .i32) .unit)))))) (.pair (.sl 94 (.pair (.int .i64) (.pair (.int .i64) (.pair (.int .i64) (.pair (.int .i64) (.pair (.int .i64) (.pair .bool .unit))))))) (.pair (.int .i64) (.pair (.arr 8 (.int .i64)) (.pair (.sl 96 (.pair (.int .i64) (.pair (.int .i64) .unit))) (.pair (.sl 4 .bool) (.pair (.sl 98 (.pair (.int .i64) (.pair (.int .i64) .unit))) .unit)))))))))))) (.pair (.sl 65 (.pair (.int .i64) (.pair (.int .i64) (.pair .bool (.pair (.int .i64) (.pair (.int .i64) (.pair (.int .i64) .unit))))))) (.pair (.sl 62 (.pair (.int .i64) (.pair (.int .i64) (.pair (.sl 3 (.int .i64)) (.pair (.int .i64) (.pair (.int .i64) .unit)))))) .unit))), .val), ((.int .i64), .val)], [((.int .i64), .val), ((.sl 3 (.int .i64)), (.own (.ow .sh))), ((.int .i64), .val)]⟩
 def h28 : Hint := (.seq .leaf
   (.seq (.seq .leaf
   (.cond none
     (.seq .leaf
     .leaf)
     .leaf))
   (.seq .leaf
   (.seq .leaf
   (.seq (.seq .leaf
   (.block ⟨[((.ptr 62 (.pair (.int .i64) (.pair (.int .i64) (.pair (.sl 3 (.int .i64)) (.pair (.int .i64) (.pair (.int .i64) .unit)))))), (.ow .sh), (7, 0)), ((.ptr 26 (.pair (.sl 55 (.pair (.pair (.int .i64) (.pair (.int .i64) (.pair (.int .i64) (.pair (.int .i64) .unit)))) (.pair (.int .i64) (.pair (.int .i64) (.pair (.sl 2 (.int .i64)) (.pair (.sl 57 (.pair (.int .u8) (.pair (.int .u8) (.pair (.int .u8) (.pair (.int .u8) (.pair (.int .i32) .unit)))))) (.pair (.sl 94 (.pair (.int .i64) (.pair (.int .i64) (.pair (.int .i64) (.pair (.int .i64) (.pair (.int .i64) (.pair .bool .unit))))))) (.pair (.int .i64) (.pair (.arr 8 (.int .i64)) (.pair (.sl 96 (.pair (.int .i64) (.pair (.int .i64) .unit))) (.pair (.sl 4 .bool) (.pair (.sl 98 (.pair (.int .i64) (.pair (.int .i64) .unit))) .unit)))))))))))) (.pair (.sl 65 (.pair (.int .i64) (.pair (.int .i64) (.pair .bool (.pair (.int .i64) (.pair (.int .i64) (.pair (.int .i64) .unit))))))) (.pair (.sl 62 (.pair (.int .i64) (.pair (.int .i64) (.pair (.sl 3 (.int .i64)) (.pair (.int .i64) (.pair (.int .i64) .unit)))))) .unit)))), (.ow .sh), (2, 0)), ((.sl 3 (.int .i64)), (.ow .sh), (8, 0))], [((7, 0), (.own 0)), ((2, 0), (.own 1)), ((8, 0), (.own 2))]⟩ true
     (.loop ⟨[((.ptr 26 (.pair (.sl 55 (.pair (.pair (.int .i64) (.pair (.int .i64) (.pair (.int .i64) (.pair (.int .i64) .unit)))) (.pair (.int .i64) (.pair (.int .i64) (.pair (.sl 2 (.int .i64)) (.pair (.sl 57 (.pair (.int .u8) (.pair (.int .u8) (.pair (.int .u8) (.pair (.int .u8) (.pair (.int .i32) .unit)))))) (.pair (.sl 94 (.pair (.int .i64) (.pair (.int .i64) (.pair (.int .i64) (.pair (.int .i64) (.pair (.int .i64) (.pair .bool .unit))))))) (.pair (.int .i64) (.pair (.arr 8 (.int .i64)) (.pair (.sl 96 (.pair (.int .i64) (.pair (.int .i64) .unit))) (.pair (.sl 4 .bool) (.pair (.sl 98 (.pair (.int .i64) (.pair (.int .i64) .unit))) .unit)))))))))))) (.pair (.sl 65 (.pair (.int .i64) (.pair (.int .i64) (.pair .bool (.pair (.int .i64) (.pair (.int .i64) (.pair (.int .i64) .unit))))))) (.pair (.sl 62 (.pair (.int .i64) (.pair (.int .i64) (.pair (.sl 3 (.int .i64)) (.pair (.int .i64) (.pair (.int .i64) .unit)))))) .unit)))), (.ow .sh), (2, 0)), ((.sl 3 (.int .i64)), (.ow .sh), (8, 0)), ((.ptr 62 (.pair (.int .i64) (.pair (.int .i64) (.pair (.sl 3 (.int .i64)) (.pair (.int .i64) (.pair (.int .i64) .unit)))))), (.ow .sh), (7, 0))], [((29, 0), (.val (.int .i64))), ((2, 0), (.own 0)), ((8, 0), (.own 1)), ((27, 0), (.val (.sl 3 (.int .i64)))), ((7, 0), (.own 2)), ((28, 0), (.val (.int .i64)))]⟩
       (.seq .leaf
       (.seq (.cond none
         .leaf
         .leaf)
       (.seq (.block ⟨[((.ptr 26 (.pair (.sl 55 (.pair (.pair (.int .i64) (.pair (.int .i64) (.pair (.int .i64) (.pair (.int .i64) .unit)))) (.pair (.int .i64) (.pair (.int .i64) (.pair (.sl 2 (.int .i64)) (.pair (.sl 57 (.pair (.int .u8) (.pair (.int .u8) (.pair (.int .u8) (.pair (.int .u8) (.pair (.int .i32) .unit)))))) (.pair (.sl 94 (.pair (.int .i64) (.pair (.int .i64) (.pair (.int .i64) (.pair (.int .i64) (.pair (.int .i64) (.pair .bool .unit))))))) (.pair (.int .i64) (.pair (.arr 8 (.int .i64)) (.pair (.sl 96 (.pair (.int .i64) (.pair (.int .i64) .unit))) (.pair (.sl 4 .bool) (.pair (.sl 98 (.pair (.int .i64) (.pair (.int .i64) .unit))) .unit)))))))))))) (.pair (.sl 65 (.pair (.int .i64) (.pair (.int .i64) (.pair .bool (.pair (.int .i64) (.pair (.int .i64) (.pair (.int .i64) .unit))))))) (.pair (.sl 62 (.pair (.int .i64) (.pair (.int .i64) (.pair (.sl 3 (.int .i64)) (.pair (.int .i64) (.pair (.int .i64) .unit)))))) .unit)))), (.ow .sh), (2, 0)), ((.sl 3 (.int .i64)), (.ow .sh), (8, 0)), ((.ptr 62 (.pair (.int .i64) (.pair (.int .i64) (.pair (.sl 3 (.int .i64)) (.pair (.int .i64) (.pair (.int .i64) .unit)))))), (.ow .sh), (7, 0))], [((2, 0), (.own 0)), ((8, 0), (.own 1)), ((27, 0), (.val (.sl 3 (.int .i64)))), ((7, 0), (.own 2)), ((28, 0), (.val (.int .i64))), ((29, 0), (.val (.int .i64)))]⟩ true
         (.seq .leaf
         .leaf))
       .leaf))))))
   (.seq (.seq .leaf
   (.cond (some ⟨[((.sl 3 (.int .i64)), (.ow .sh), (8, 0)), ((.ptr 62 (.pair (.int .i64) (.pair (.int .i64) (.pair (.sl 3 (.int .i64)) (.pair (.int .i64) (.pair (.int .i64) .unit)))))), (.ow .sh), (7, 0)), ((.ptr 26 (.pair (.sl 55 (.pair (.pair (.int .i64) (.pair (.int .i64) (.pair (.int .i64) (.pair (.int .i64) .unit)))) (.pair (.int .i64) (.pair (.int .i64) (.pair (.sl 2 (.int .i64)) (.pair (.sl 57 (.pair (.int .u8) (.pair (.int .u8) (.pair (.int .u8) (.pair (.int .u8) (.pair (.int .i32) .unit)))))) (.pair (.sl 94 (.pair (.int .i64) (.pair (.int .i64) (.pair (.int .i64) (.pair (.int .i64) (.pair (.int .i64) (.pair .bool .unit))))))) (.pair (.int .i64) (.pair (.arr 8 (.int .i64)) (.pair (.sl 96 (.pair (.int .i64) (.pair (.int .i64) .unit))) (.pair (.sl 4 .bool) (.pair (.sl 98 (.pair (.int .i64) (.pair (.int .i64) .unit))) .unit)))))))))))) (.pair (.sl 65 (.pair (.int .i64) (.pair (.int .i64) (.pair .bool (.pair (.int .i64) (.pair (.int .i64) (.pair (.int .i64) .unit))))))) (.pair (.sl 62 (.pair (.int .i64) (.pair (.int .i64) (.pair (.sl 3 (.int .i64)) (.pair (.int .i64) (.pair (.int .i64) .unit)))))) .unit)))), (.ow .sh), (2, 0))], [((8, 0), (.own 0)), ((7, 0), (.own 1)), ((2, 0), (.own 2))]⟩)
     .leaf
     .leaf))
   (.seq .leaf
   (.seq .leaf
   .leaf))))))))
def d28_K1 (x0 : Nat) : ((((List Int) × (CH × (IM × Unit))) × Unit) → (Option ((Int × ((List Int) × (Int × Unit))) × Unit))) :=
  (fun (x11 : (((List Int) × (CH × (IM × Unit))) × Unit)) => (Option.bind (d51 x0 (x11.1.1, ())) fun (x12 : (Unit × ((List Int) × Unit))) =>
  (Option.bind (d50 x0 (x11.1.2.2.1, (x11.1.2.1.2.1, ()))) fun (x13 : ((Int × Unit) × Unit)) =>
  (Option.bind (d52 x0 (x12.2.1, ())) fun (x14 : (((List Int) × Unit) × Unit)) =>
  (Option.some ((x13.1.1, (x14.1.1, ((0 : Int), ()))), ()))))))
def d28_K2 (x0 : Nat) : (((CH × (IM × ((List Int) × Unit))) × Unit) → (Option ((Int × ((List Int) × (Int × Unit))) × Unit))) :=
  (fun (x8 : ((CH × (IM × ((List Int) × Unit))) × Unit)) => (lt (((List.length x8.1.2.2.1) : Nat) : Int) fun (x9 : Int) =>
  (lt (x9 == (0 : Int)) fun (x10 : Bool) =>
  (shr (d28_K1 x0) (fun (x11 : ((((List Int) × (CH × (IM × Unit))) × Unit) → (Option ((Int × ((List Int) × (Int × Unit))) × Unit)))) => (if (x10 = Bool.true) then
  (x11 ((((0 : Int) :: ([] : List Int)), (x8.1.1, (x8.1.2.1, ()))), ()))
  else (x11 ((x8.1.2.2.1, (x8.1.1, (x8.1.2.1, ()))), ()))))))))
def d28_K3 (x9 : (((IM × ((List Int) × (CH × Unit))) × (Int × ((List Int) × (Int × Unit)))) → (Option ((Int × ((List Int) × (Int × Unit))) × Unit)))) : (((IM × ((List Int) × (CH × Unit))) × ((List Int) × (Int × (Int × Unit)))) → (Option ((Int × ((List Int) × (Int × Unit))) × Unit))) :=
  (fun (x12 : ((IM × ((List Int) × (CH × Unit))) × ((List Int) × (Int × (Int × Unit))))) => (x9 ((x12.1.1, (x12.1.2.1, (x12.1.2.2.1, ()))), ((Go.IntKind.wrap Go.IntKind.i64 (x12.2.2.2.1 + (1 : Int))), (x12.2.1, (x12.2.2.1, ()))))))
def d28_L4 (x0 : Nat) (x8 : (((CH × (IM × ((List Int) × Unit))) × Unit) → (Option ((Int × ((List Int) × (Int × Unit))) × Unit)))) : ((((IM × ((List Int) × (CH × Unit))) × (Int × ((List Int) × (Int × Unit)))) → (Option ((Int × ((List Int) × (Int × Unit))) × Unit))) → (((IM × ((List Int) × (CH × Unit))) × (Int × ((List Int) × (Int × Unit)))) → (Option ((Int × ((List Int) × (Int × Unit))) × Unit)))) :=
  (fun (x9 : (((IM × ((List Int) × (CH × Unit))) × (Int × ((List Int) × (Int × Unit)))) → (Option ((Int × ((List Int) × (Int × Unit))) × Unit)))) => (fun (x10 : ((IM × ((List Int) × (CH × Unit))) × (Int × ((List Int) × (Int × Unit))))) => (lt (Decidable.decide (x10.2.1 < x10.2.2.2.1)) fun (x11 : Bool) =>
  (if (x11 = Bool.true) then
  (shr (d28_K3 x9) (fun (x12 : (((IM × ((List Int) × (CH × Unit))) × ((List Int) × (Int × (Int × Unit)))) → (Option ((Int × ((List Int) × (Int × Unit))) × Unit)))) => (if (((Decidable.decide ((0 : Int) ≤ x10.2.1)) && (Decidable.decide (x10.2.1 < (((List.length x10.2.2.1) : Nat) : Int)))) = Bool.true) then
  (lt (List.getD x10.2.2.1 (Int.toNat x10.2.1) (0 : Int)) fun (x13 : Int) =>
  (Option.bind (d50 x0 (x10.1.1, (x13, ()))) fun (x14 : ((Int × Unit) × Unit)) =>
  (lt (x14.1.1 :: ([] : List Int)) fun (x15 : (List Int)) =>
  (if ((Go.Lift.appFits (List.length x10.1.2.1) (List.length x15) (8 : Nat)) = Bool.true) then
  (x12 ((x10.1.1, ((x10.1.2.1 ++ x15), (x10.1.2.2.1, ()))), (x10.2.2.1, (x10.2.2.2.1, (x10.2.1, ())))))
  else (Option.none)))))
  else (Option.none))))
  else (x8 ((x10.1.2.2.1, (x10.1.1, (x10.1.2.1, ()))), ()))))))
def d28 : (Nat → ((IM × (Int × Unit)) → (Option ((Int × ((List Int) × (Int × Unit))) × Unit)))) :=
  (fun (x0 : Nat) => (fun (x1 : (IM × (Int × Unit))) => (lt (Decidable.decide (x1.2.1 < (1 : Int))) fun (x2 : Bool) =>
  (lt (((List.length x1.1.2.2.1) : Nat) : Int) fun (x3 : Int) =>
  (lt (Decidable.decide (x1.2.1 > x3)) fun (x4 : Bool) =>
  (lt (if (x2 = Bool.true) then
  Bool.true
  else x4) fun (x5 : Bool) =>
  (if (x5 = Bool.true) then
  (Option.some (((0 : Int), (([] : List Int), ((2 : Int), ()))), ()))
  else (lt (Go.IntKind.wrap Go.IntKind.i64 (x1.2.1 - (1 : Int))) fun (x6 : Int) =>
  (if (((Decidable.decide ((0 : Int) ≤ x6)) && (Decidable.decide (x6 < (((List.length x1.1.2.2.1) : Nat) : Int)))) = Bool.true) then
  (lt (List.getD x1.1.2.2.1 (Int.toNat x6) ((0 : Int), ((0 : Int), (([] : List Int), ((0 : Int), ((0 : Int), ())))))) fun (x7 : CH) =>
  (shr (d28_K2 x0) (fun (x8 : (((CH × (IM × ((List Int) × Unit))) × Unit) → (Option ((Int × ((List Int) × (Int × Unit))) × Unit)))) => (loopN (d28_L4 x0 x8) x0 ((x1.1, (([] : List Int), (x7, ()))), ((0 : Int), (x7.2.2.1, ((((List.length x7.2.2.1) : Nat) : Int), ()))))))))
  else (Option.none))))))))))
theorem k28 : c_fn Tryd.prog [(50, ⟨s50, d50⟩), (51, ⟨s51, d51⟩), (52, ⟨s52, d52⟩)] Tryd.f28 s28 h28 = some d28 := by kernel_rfl
/-- bulkhead/flow.there -/
def s29 : Sig := ⟨[((.pair (.sl 55 (.pair (.pair (.int .i64) (.pair (.int .i64) (.pair (.int .i64) (.pair (.int .i64) .unit)))) (.pair (.int .i64) (.pair (.int .i64) (.pair (.sl 2 (.int .i64)) (.pair (.sl 57 (.pair (.int .u8) (.pair (.int .u8) (.pair (.int .u8) (.pair (.int .u8) (.pair (.int .i32) .unit)))))) (.pair (.sl 94 (.pair (.int .i64) (.pair (.int .i64) (.pair (.int .i64) (.pair (.int .i64) (.pair (.int .i64) (.pair .bool .unit))))))) (.pair (.int .i64) (.pair (.arr 8 (.int .i64)) (.pair (.sl 96 (.pair (.int .i64) (.pair (.int .i64) .unit))) (.pair (.sl 4 .bool) (.pair (.sl 98 (.pair (.int .i64) (.pair (.int .i64) .unit))) .unit)))))))))))) (.pair (.sl 65 (.pair (.int .i64) (.pair (.int .i64) (.pair .bool (.pair (.int .i64) (.pair (.int .i64) (.pair (.int .i64) .unit))))))) (.pair (.sl 62 (.pair (.int .i64) (.pair (.int .i64) (.pair (.sl 3 (.int .i64)) (.pair (.int .i64) (.pair (.int .i64) .unit)))))) .unit))), .val), ((.int .i64), .val)], [(.bool, .val)]⟩
 def h29 : Hint := (.seq .leaf
   (.seq .leaf
   .leaf))
def d29 : (Nat → ((IM × (Int × Unit)) → (Option ((Bool × Unit) × Unit)))) :=
  (fun (x0 : Nat) => (fun (x1 : (IM × (Int × Unit))) => (lt (Decidable.decide (x1.2.1 ≥ (1 : Int))) fun (x2 : Bool) =>
  (lt (((List.length x1.1.1) : Nat) : Int) fun (x3 : Int) =>
  (lt (Decidable.decide (x1.2.1 ≤ x3)) fun (x4 : Bool) =>
  (Option.some (((if (x2 = Bool.true) then
  x4
  else Bool.false), ()), ())))))))
theorem k29 : c_fn Tryd.prog [] Tryd.f29 s29 h29 = some d29 := by kernel_rfl
/-- bulkhead/flow.Direct -/
def s8 : Sig := ⟨[((.pair (.sl 55 (.pair (.pair (.int .i64) (.pair (.int .i64) (.pair (.int .i64) (.pair (.int .i64) .unit)))) (.pair (.int .i64) (.pair (.int .i64) (.pair (.sl 2 (.int .i64)) (.pair (.sl 57 (.pair (.int .u8) (.pair (.int .u8) (.pair (.int .u8) (.pair (.int .u8) (.pair (.int .i32) .unit)))))) (.pair (.sl 94 (.pair (.int .i64) (.pair (.int .i64) (.pair (.int .i64) (.pair (.int .i64) (.pair (.int .i64) (.pair .bool .unit))))))) (.pair (.int .i64) (.pair (.arr 8 (.int .i64)) (.pair (.sl 96 (.pair (.int .i64) (.pair (.int .i64) .unit))) (.pair (.sl 4 .bool) (.pair (.sl 98 (.pair (.int .i64) (.pair (.int .i64) .unit))) .unit)))))))))))) (.pair (.sl 65 (.pair (.int .i64) (.pair (.int .i64) (.pair .bool (.pair (.int .i64) (.pair (.int .i64) (.pair (.int .i64) .unit))))))) (.pair (.sl 62 (.pair (.int .i64) (.pair (.int .i64) (.pair (.sl 3 (.int .i64)) (.pair (.int .i64) (.pair (.int .i64) .unit)))))) .unit))), .val)], [((.sl 43 (.sl 4 .bool)), (.own (.ow (.ow .sh))))]⟩
 def h8 : Hint := (.seq .leaf
   (.seq .leaf
   (.seq (.seq .leaf
   (.block ⟨[((.sl 43 (.sl 4 .bool)), (.ow (.ow .sh)), (3, 0))], [((3, 0), (.own 0))]⟩ true
     (.loop ⟨[((.sl 43 (.sl 4 .bool)), (.ow (.ow .sh)), (3, 0)), ((.ptr 26 (.pair (.sl 55 (.pair (.pair (.int .i64) (.pair (.int .i64) (.pair (.int .i64) (.pair (.int .i64) .unit)))) (.pair (.int .i64) (.pair (.int .i64) (.pair (.sl 2 (.int .i64)) (.pair (.sl 57 (.pair (.int .u8) (.pair (.int .u8) (.pair (.int .u8) (.pair (.int .u8) (.pair (.int .i32) .unit)))))) (.pair (.sl 94 (.pair (.int .i64) (.pair (.int .i64) (.pair (.int .i64) (.pair (.int .i64) (.pair (.int .i64) (.pair .bool .unit))))))) (.pair (.int .i64) (.pair (.arr 8 (.int .i64)) (.pair (.sl 96 (.pair (.int .i64) (.pair (.int .i64) .unit))) (.pair (.sl 4 .bool) (.pair (.sl 98 (.pair (.int .i64) (.pair (.int .i64) .unit))) .unit)))))))))))) (.pair (.sl 65 (.pair (.int .i64) (.pair (.int .i64) (.pair .bool (.pair (.int .i64) (.pair (.int .i64) (.pair (.int .i64) .unit))))))) (.pair (.sl 62 (.pair (.int .i64) (.pair (.int .i64) (.pair (.sl 3 (.int .i64)) (.pair (.int .i64) (.pair (.int .i64) .unit)))))) .unit)))), (.ow .sh), (1, 0))], [((3, 0), (.own 0)), ((1, 0), (.own 1)), ((17, 0), (.val (.int .i64))), ((16, 0), (.val (.int .i64)))]⟩
       (.seq .leaf
       (.seq (.cond none
         .leaf
         .leaf)
       (.seq (.block ⟨[((.sl 43 (.sl 4 .bool)), (.ow (.ow .sh)), (3, 0)), ((.ptr 26 (.pair (.sl 55 (.pair (.pair (.int .i64) (.pair (.int .i64) (.pair (.int .i64) (.pair (.int .i64) .unit)))) (.pair (.int .i64) (.pair (.int .i64) (.pair (.sl 2 (.int .i64)) (.pair (.sl 57 (.pair (.int .u8) (.pair (.int .u8) (.pair (.int .u8) (.pair (.int .u8) (.pair (.int .i32) .unit)))))) (.pair (.sl 94 (.pair (.int .i64) (.pair (.int .i64) (.pair (.int .i64) (.pair (.int .i64) (.pair (.int .i64) (.pair .bool .unit))))))) (.pair (.int .i64) (.pair (.arr 8 (.int .i64)) (.pair (.sl 96 (.pair (.int .i64) (.pair (.int .i64) .unit))) (.pair (.sl 4 .bool) (.pair (.sl 98 (.pair (.int .i64) (.pair (.int .i64) .unit))) .unit)))))))))))) (.pair (.sl 65 (.pair (.int .i64) (.pair (.int .i64) (.pair .bool (.pair (.int .i64) (.pair (.int .i64) (.pair (.int .i64) .unit))))))) (.pair (.sl 62 (.pair (.int .i64) (.pair (.int .i64) (.pair (.sl 3 (.int .i64)) (.pair (.int .i64) (.pair (.int .i64) .unit)))))) .unit)))), (.ow .sh), (1, 0))], [((3, 0), (.own 0)), ((1, 0), (.own 1)), ((16, 0), (.val (.int .i64))), ((17, 0), (.val (.int .i64)))]⟩ true
         (.seq .leaf
         (.seq .leaf
         (.seq .leaf
         (.block ⟨[((.sl 43 (.sl 4 .bool)), (.ow (.ow .sh)), (3, 0)), ((.ptr 26 (.pair (.sl 55 (.pair (.pair (.int .i64) (.pair (.int .i64) (.pair (.int .i64) (.pair (.int .i64) .unit)))) (.pair (.int .i64) (.pair (.int .i64) (.pair (.sl 2 (.int .i64)) (.pair (.sl 57 (.pair (.int .u8) (.pair (.int .u8) (.pair (.int .u8) (.pair (.int .u8) (.pair (.int .i32) .unit)))))) (.pair (.sl 94 (.pair (.int .i64) (.pair (.int .i64) (.pair (.int .i64) (.pair (.int .i64) (.pair (.int .i64) (.pair .bool .unit))))))) (.pair (.int .i64) (.pair (.arr 8 (.int .i64)) (.pair (.sl 96 (.pair (.int .i64) (.pair (.int .i64) .unit))) (.pair (.sl 4 .bool) (.pair (.sl 98 (.pair (.int .i64) (.pair (.int .i64) .unit))) .unit)))))))))))) (.pair (.sl 65 (.pair (.int .i64) (.pair (.int .i64) (.pair .bool (.pair (.int .i64) (.pair (.int .i64) (.pair (.int .i64) .unit))))))) (.pair (.sl 62 (.pair (.int .i64) (.pair (.int .i64) (.pair (.sl 3 (.int .i64)) (.pair (.int .i64) (.pair (.int .i64) .unit)))))) .unit)))), (.ow .sh), (1, 0))], [((3, 0), (.own 0)), ((1, 0), (.own 1)), ((16, 0), (.val (.int .i64))), ((17, 0), (.val (.int .i64)))]⟩ true
           (.loop ⟨[((.sl 43 (.sl 4 .bool)), (.ow (.ow .sh)), (3, 0)), ((.ptr 26 (.pair (.sl 55 (.pair (.pair (.int .i64) (.pair (.int .i64) (.pair (.int .i64) (.pair (.int .i64) .unit)))) (.pair (.int .i64) (.pair (.int .i64) (.pair (.sl 2 (.int .i64)) (.pair (.sl 57 (.pair (.int .u8) (.pair (.int .u8) (.pair (.int .u8) (.pair (.int .u8) (.pair (.int .i32) .unit)))))) (.pair (.sl 94 (.pair (.int .i64) (.pair (.int .i64) (.pair (.int .i64) (.pair (.int .i64) (.pair (.int .i64) (.pair .bool .unit))))))) (.pair (.int .i64) (.pair (.arr 8 (.int .i64)) (.pair (.sl 96 (.pair (.int .i64) (.pair (.int .i64) .unit))) (.pair (.sl 4 .bool) (.pair (.sl 98 (.pair (.int .i64) (.pair (.int .i64) .unit))) .unit)))))))))))) (.pair (.sl 65 (.pair (.int .i64) (.pair (.int .i64) (.pair .bool (.pair (.int .i64) (.pair (.int .i64) (.pair (.int .i64) .unit))))))) (.pair (.sl 62 (.pair (.int .i64) (.pair (.int .i64) (.pair (.sl 3 (.int .i64)) (.pair (.int .i64) (.pair (.int .i64) .unit)))))) .unit)))), (.ow .sh), (1, 0)), ((.sl 3 (.int .i64)), (.ow .sh), (28, 0))], [((30, 0), (.val (.int .i64))), ((5, 0), (.val (.int .i64))), ((3, 0), (.own 0)), ((1, 0), (.own 1)), ((28, 0), (.own 2)), ((16, 0), (.val (.int .i64))), ((17, 0), (.val (.int .i64))), ((29, 0), (.val (.int .i64)))]⟩
             (.seq .leaf
             (.seq (.cond none
               .leaf
               .leaf)
             (.seq (.block ⟨[((.sl 43 (.sl 4 .bool)), (.ow (.ow .sh)), (3, 0)), ((.ptr 26 (.pair (.sl 55 (.pair (.pair (.int .i64) (.pair (.int .i64) (.pair (.int .i64) (.pair (.int .i64) .unit)))) (.pair (.int .i64) (.pair (.int .i64) (.pair (.sl 2 (.int .i64)) (.pair (.sl 57 (.pair (.int .u8) (.pair (.int .u8) (.pair (.int .u8) (.pair (.int .u8) (.pair (.int .i32) .unit)))))) (.pair (.sl 94 (.pair (.int .i64) (.pair (.int .i64) (.pair (.int .i64) (.pair (.int .i64) (.pair (.int .i64) (.pair .bool .unit))))))) (.pair (.int .i64) (.pair (.arr 8 (.int .i64)) (.pair (.sl 96 (.pair (.int .i64) (.pair (.int .i64) .unit))) (.pair (.sl 4 .bool) (.pair (.sl 98 (.pair (.int .i64) (.pair (.int .i64) .unit))) .unit)))))))))))) (.pair (.sl 65 (.pair (.int .i64) (.pair (.int .i64) (.pair .bool (.pair (.int .i64) (.pair (.int .i64) (.pair (.int .i64) .unit))))))) (.pair (.sl 62 (.pair (.int .i64) (.pair (.int .i64) (.pair (.sl 3 (.int .i64)) (.pair (.int .i64) (.pair (.int .i64) .unit)))))) .unit)))), (.ow .sh), (1, 0)), ((.sl 3 (.int .i64)), (.ow .sh), (28, 0))], [((5, 0), (.val (.int .i64))), ((3, 0), (.own 0)), ((1, 0), (.own 1)), ((28, 0), (.own 2)), ((16, 0), (.val (.int .i64))), ((17, 0), (.val (.int .i64))), ((29, 0), (.val (.int .i64))), ((30, 0), (.val (.int .i64)))]⟩ true
               (.seq .leaf
               (.seq .leaf
               (.cond (some ⟨[((.sl 43 (.sl 4 .bool)), (.ow (.ow .sh)), (3, 0)), ((.ptr 26 (.pair (.sl 55 (.pair (.pair (.int .i64) (.pair (.int .i64) (.pair (.int .i64) (.pair (.int .i64) .unit)))) (.pair (.int .i64) (.pair (.int .i64) (.pair (.sl 2 (.int .i64)) (.pair (.sl 57 (.pair (.int .u8) (.pair (.int .u8) (.pair (.int .u8) (.pair (.int .u8) (.pair (.int .i32) .unit)))))) (.pair (.sl 94 (.pair (.int .i64) (.pair (.int .i64) (.pair (.int .i64) (.pair (.int .i64) (.pair (.int .i64) (.pair .bool .unit))))))) (.pair (.int .i64) (.pair (.arr 8 (.int .i64)) (.pair (.sl 96 (.pair (.int .i64) (.pair (.int .i64) .unit))) (.pair (.sl 4 .bool) (.pair (.sl 98 (.pair (.int .i64) (.pair (.int .i64) .unit))) .unit)))))))))))) (.pair (.sl 65 (.pair (.int .i64) (.pair (.int .i64) (.pair .bool (.pair (.int .i64) (.pair (.int .i64) (.pair (.int .i64) .unit))))))) (.pair (.sl 62 (.pair (.int .i64) (.pair (.int .i64) (.pair (.sl 3 (.int .i64)) (.pair (.int .i64) (.pair (.int .i64) .unit)))))) .unit)))), (.ow .sh), (1, 0)), ((.sl 3 (.int .i64)), (.ow .sh), (28, 0))], [((5, 0), (.val (.int .i64))), ((3, 0), (.own 0)), ((1, 0), (.own 1)), ((28, 0), (.own 2)), ((16, 0), (.val (.int .i64))), ((17, 0), (.val (.int .i64))), ((29, 0), (.val (.int .i64))), ((30, 0), (.val (.int .i64)))]⟩)
                 .leaf
                 .leaf))))
             .leaf)))))))))
       .leaf))))))
   (.seq .leaf
   .leaf))))
def d8_K1  : ((((List (List Bool)) × Unit) × Unit) → (Option (((List (List Bool)) × Unit) × Unit))) :=
  (fun (x3 : (((List (List Bool)) × Unit) × Unit)) => (Option.some ((x3.1.1, ()), ())))
def d8_K2 (x4 : ((((List (List Bool)) × (IM × Unit)) × (Int × (Int × Unit))) → (Option (((List (List Bool)) × Unit) × Unit)))) : ((((List (List Bool)) × (IM × Unit)) × (Int × (Int × Unit))) → (Option (((List (List Bool)) × Unit) × Unit))) :=
  (fun (x7 : (((List (List Bool)) × (IM × Unit)) × (Int × (Int × Unit)))) => (x4 ((x7.1.1, (x7.1.2.1, ())), ((Go.IntKind.wrap Go.IntKind.i64 (x7.2.2.1 + (1 : Int))), (x7.2.1, ())))))
def d8_K3 (x7 : ((((List (List Bool)) × (IM × Unit)) × (Int × (Int × Unit))) → (Option (((List (List Bool)) × Unit) × Unit)))) : ((((List (List Bool)) × (IM × Unit)) × (Int × (Int × Unit))) → (Option (((List (List Bool)) × Unit) × Unit))) :=
  (fun (x9 : (((List (List Bool)) × (IM × Unit)) × (Int × (Int × Unit)))) => (x7 ((x9.1.1, (x9.1.2.1, ())), (x9.2.1, (x9.2.2.1, ())))))
def d8_K4 (x10 : ((((List (List Bool)) × (IM × ((List Int) × Unit))) × (Int × (Int × (Int × (Int × (Int × Unit)))))) → (Option (((List (List Bool)) × Unit) × Unit)))) : ((((List (List Bool)) × (IM × ((List Int) × Unit))) × (Int × (Int × (Int × (Int × (Int × Unit)))))) → (Option (((List (List Bool)) × Unit) × Unit))) :=
  (fun (x13 : (((List (List Bool)) × (IM × ((List Int) × Unit))) × (Int × (Int × (Int × (Int × (Int × Unit))))))) => (x10 ((x13.1.1, (x13.1.2.1, (x13.1.2.2.1, ()))), ((Go.IntKind.wrap Go.IntKind.i64 (x13.2.2.2.2.2.1 + (1 : Int))), (x13.2.1, (x13.2.2.1, (x13.2.2.2.1, (x13.2.2.2.2.1, ()))))))))
def d8_K5 (x13 : ((((List (List Bool)) × (IM × ((List Int) × Unit))) × (Int × (Int × (Int × (Int × (Int × Unit)))))) → (Option (((List (List Bool)) × Unit) × Unit)))) : ((((List (List Bool)) × (IM × ((List Int) × Unit))) × (Int × (Int × (Int × (Int × (Int × Unit)))))) → (Option (((List (List Bool)) × Unit) × Unit))) :=
  (fun (x18 : (((List (List Bool)) × (IM × ((List Int) × Unit))) × (Int × (Int × (Int × (Int × (Int × Unit))))))) => (x13 ((x18.1.1, (x18.1.2.1, (x18.1.2.2.1, ()))), (x18.2.1, (x18.2.2.1, (x18.2.2.2.1, (x18.2.2.2.2.1, (x18.2.2.2.2.2.1, ()))))))))
def d8_L6 (x0 : Nat) (x9 : ((((List (List Bool)) × (IM × Unit)) × (Int × (Int × Unit))) → (Option (((List (List Bool)) × Unit) × Unit)))) : (((((List (List Bool)) × (IM × ((List Int) × Unit))) × (Int × (Int × (Int × (Int × (Int × Unit)))))) → (Option (((List (List Bool)) × Unit) × Unit))) → ((((List (List Bool)) × (IM × ((List Int) × Unit))) × (Int × (Int × (Int × (Int × (Int × Unit)))))) → (Option (((List (List Bool)) × Unit) × Unit)))) :=
  (fun (x10 : ((((List (List Bool)) × (IM × ((List Int) × Unit))) × (Int × (Int × (Int × (Int × (Int × Unit)))))) → (Option (((List (List Bool)) × Unit) × Unit)))) => (fun (x11 : (((List (List Bool)) × (IM × ((List Int) × Unit))) × (Int × (Int × (Int × (Int × (Int × Unit))))))) => (lt (Decidable.decide (x11.2.1 < x11.2.2.2.2.2.1)) fun (x12 : Bool) =>
  (if (x12 = Bool.true) then
  (shr (d8_K4 x10) (fun (x13 : ((((List (List Bool)) × (IM × ((List Int) × Unit))) × (Int × (Int × (Int × (Int × (Int × Unit)))))) → (Option (((List (List Bool)) × Unit) × Unit)))) => (if (((Decidable.decide ((0 : Int) ≤ x11.2.1)) && (Decidable.decide (x11.2.1 < (((List.length x11.1.2.2.1) : Nat) : Int)))) = Bool.true) then
  (if (((Decidable.decide ((Int.toNat x11.2.1) < (List.length x11.1.2.2.1))) && Bool.true) = Bool.true) then
  (lt (List.getD x11.1.2.2.1 (Int.toNat x11.2.1) (0 : Int)) fun (x14 : Int) =>
  (Option.bind (d29 x0 (x11.1.2.1, (x11.2.2.1, ()))) fun (x15 : ((Bool × Unit) × Unit)) =>
  (Option.bind (if (((x15.1.1 == Bool.true) && Bool.true) = Bool.true) then
  (d29 x0 (x11.1.2.1, (x14, ())))
  else (Option.some ((Bool.false, ()), ()))) fun (x16 : ((Bool × Unit) × Unit)) =>
  (lt (if (x15.1.1 = Bool.true) then
  x16.1.1
  else Bool.false) fun (x17 : Bool) =>
  (shr (d8_K5 x13) (fun (x18 : ((((List (List Bool)) × (IM × ((List Int) × Unit))) × (Int × (Int × (Int × (Int × (Int × Unit)))))) → (Option (((List (List Bool)) × Unit) × Unit)))) => (if (x17 = Bool.true) then
  (lt (Go.IntKind.wrap Go.IntKind.i64 (x11.2.2.1 - (1 : Int))) fun (x19 : Int) =>
  (if (((Decidable.decide ((0 : Int) ≤ x19)) && (Decidable.decide (x19 < (((List.length x11.1.1) : Nat) : Int)))) = Bool.true) then
  (if (((Decidable.decide ((Int.toNat x19) < (List.length x11.1.1))) && Bool.true) = Bool.true) then
  (lt (Go.IntKind.wrap Go.IntKind.i64 (x14 - (1 : Int))) fun (x20 : Int) =>
  (if ((((Decidable.decide ((Int.toNat x19) < (List.length x11.1.1))) && Bool.true) && ((Decidable.decide ((0 : Int) ≤ x20)) && (Decidable.decide (x20 < (((List.length (List.getD x11.1.1 (Int.toNat x19) ([] : List Bool))) : Nat) : Int))))) = Bool.true) then
  (if (((Decidable.decide ((Int.toNat x19) < (List.length x11.1.1))) && ((Decidable.decide ((Int.toNat x20) < (List.length (List.getD x11.1.1 (Int.toNat x19) ([] : List Bool))))) && Bool.true)) = Bool.true) then
  (x18 (((List.set x11.1.1 (Int.toNat x19) (List.set (List.getD x11.1.1 (Int.toNat x19) ([] : List Bool)) (Int.toNat x20) Bool.true)), (x11.1.2.1, (x11.1.2.2.1, ()))), (x11.2.2.1, (x11.2.2.2.1, (x11.2.2.2.2.1, (x11.2.2.2.2.2.1, (x11.2.1, ())))))))
  else (Option.none))
  else (Option.none)))
  else (Option.none))
  else (Option.none)))
  else (x18 ((x11.1.1, (x11.1.2.1, (x11.1.2.2.1, ()))), (x11.2.2.1, (x11.2.2.2.1, (x11.2.2.2.2.1, (x11.2.2.2.2.2.1, (x11.2.1, ()))))))))))))))
  else (Option.none))
  else (Option.none))))
  else (x9 ((x11.1.1, (x11.1.2.1, ())), (x11.2.2.2.1, (x11.2.2.2.2.1, ()))))))))
def d8_L7 (x0 : Nat) (x3 : ((((List (List Bool)) × Unit) × Unit) → (Option (((List (List Bool)) × Unit) × Unit)))) : (((((List (List Bool)) × (IM × Unit)) × (Int × (Int × Unit))) → (Option (((List (List Bool)) × Unit) × Unit))) → ((((List (List Bool)) × (IM × Unit)) × (Int × (Int × Unit))) → (Option (((List (List Bool)) × Unit) × Unit)))) :=
  (fun (x4 : ((((List (List Bool)) × (IM × Unit)) × (Int × (Int × Unit))) → (Option (((List (List Bool)) × Unit) × Unit)))) => (fun (x5 : (((List (List Bool)) × (IM × Unit)) × (Int × (Int × Unit)))) => (lt (Decidable.decide (x5.2.1 < x5.2.2.1)) fun (x6 : Bool) =>
  (if (x6 = Bool.true) then
  (shr (d8_K2 x4) (fun (x7 : ((((List (List Bool)) × (IM × Unit)) × (Int × (Int × Unit))) → (Option (((List (List Bool)) × Unit) × Unit)))) => (Option.bind (d28 x0 (x5.1.2.1, ((Go.IntKind.wrap Go.IntKind.i64 (x5.2.1 + (1 : Int))), ()))) fun (x8 : ((Int × ((List Int) × (Int × Unit))) × Unit)) =>
  (shr (d8_K3 x7) (fun (x9 : ((((List (List Bool)) × (IM × Unit)) × (Int × (Int × Unit))) → (Option (((List (List Bool)) × Unit) × Unit)))) => (loopN (d8_L6 x0 x9) x0 ((x5.1.1, (x5.1.2.1, (x8.1.2.1, ()))), ((0 : Int), (x8.1.1, (x5.2.2.1, (x5.2.1, ((((List.length x8.1.2.1) : Nat) : Int), ()))))))))))))
  else (x3 ((x5.1.1, ()), ()))))))
def d8 : (Nat → ((IM × Unit) → (Option (((List (List Bool)) × Unit) × Unit)))) :=
  (fun (x0 : Nat) => (fun (x1 : (IM × Unit)) => (Option.bind (d27 x0 ((((List.length x1.1.1) : Nat) : Int), ())) fun (x2 : (((List (List Bool)) × Unit) × Unit)) =>
  (shr d8_K1 (fun (x3 : ((((List (List Bool)) × Unit) × Unit) → (Option (((List (List Bool)) × Unit) × Unit)))) => (loopN (d8_L7 x0 x3) x0 ((x2.1.1, (x1.1, ())), ((0 : Int), ((((List.length x1.1.2.2.1) : Nat) : Int), ())))))))))
theorem k8 : c_fn Tryd.prog [(27, ⟨s27, d27⟩), (28, ⟨s28, d28⟩), (29, ⟨s29, d29⟩)] Tryd.f8 s8 h8 = some d8 := by kernel_rfl
/-- bulkhead/flow.Reach -/
def s9 : Sig := ⟨[((.pair (.sl 55 (.pair (.pair (.int .i64) (.pair (.int .i64) (.pair (.int .i64) (.pair (.int .i64) .unit)))) (.pair (.int .i64) (.pair (.int .i64) (.pair (.sl 2 (.int .i64)) (.pair (.sl 57 (.pair (.int .u8) (.pair (.int .u8) (.pair (.int .u8) (.pair (.int .u8) (.pair (.int .i32) .unit)))))) (.pair (.sl 94 (.pair (.int .i64) (.pair (.int .i64) (.pair (.int .i64) (.pair (.int .i64) (.pair (.int .i64) (.pair .bool .unit))))))) (.pair (.int .i64) (.pair (.arr 8 (.int .i64)) (.pair (.sl 96 (.pair (.int .i64) (.pair (.int .i64) .unit))) (.pair (.sl 4 .bool) (.pair (.sl 98 (.pair (.int .i64) (.pair (.int .i64) .unit))) .unit)))))))))))) (.pair (.sl 65 (.pair (.int .i64) (.pair (.int .i64) (.pair .bool (.pair (.int .i64) (.pair (.int .i64) (.pair (.int .i64) .unit))))))) (.pair (.sl 62 (.pair (.int .i64) (.pair (.int .i64) (.pair (.sl 3 (.int .i64)) (.pair (.int .i64) (.pair (.int .i64) .unit)))))) .unit))), .val)], [((.sl 43 (.sl 4 .bool)), (.own (.ow (.ow .sh))))]⟩
 def h9 : Hint := (.seq .leaf
   (.seq .leaf
   (.seq (.seq .leaf
   (.block ⟨[((.sl 43 (.sl 4 .bool)), (.ow (.ow .sh)), (3, 0))], [((3, 0), (.own 0))]⟩ true
     (.loop ⟨[((.sl 43 (.sl 4 .bool)), (.ow (.ow .sh)), (3, 0))], [((12, 0), (.val (.int .i64))), ((3, 0), (.own 0)), ((11, 0), (.val (.int .i64)))]⟩
       (.seq .leaf
       (.seq (.cond none
         .leaf
         .leaf)
       (.seq (.block ⟨[((.sl 43 (.sl 4 .bool)), (.ow (.ow .sh)), (3, 0))], [((3, 0), (.own 0)), ((11, 0), (.val (.int .i64))), ((12, 0), (.val (.int .i64)))]⟩ true
         (.seq .leaf
         .leaf))
       .leaf))))))
   (.seq (.seq .leaf
   (.block ⟨[((.sl 43 (.sl 4 .bool)), (.ow (.ow .sh)), (3, 0))], [((3, 0), (.own 0))]⟩ true
     (.loop ⟨[((.sl 43 (.sl 4 .bool)), (.ow (.ow .sh)), (3, 0))], [((3, 0), (.own 0)), ((24, 0), (.val (.int .i64))), ((23, 0), (.val (.int .i64)))]⟩
       (.seq .leaf
       (.seq (.cond none
         .leaf
         .leaf)
       (.seq (.block ⟨[((.sl 43 (.sl 4 .bool)), (.ow (.ow .sh)), (3, 0))], [((3, 0), (.own 0)), ((23, 0), (.val (.int .i64))), ((24, 0), (.val (.int .i64)))]⟩ true
         (.seq .leaf
         (.seq .leaf
         (.block ⟨[((.sl 43 (.sl 4 .bool)), (.ow (.ow .sh)), (3, 0))], [((3, 0), (.own 0)), ((23, 0), (.val (.int .i64))), ((24, 0), (.val (.int .i64)))]⟩ true
           (.loop ⟨[((.sl 43 (.sl 4 .bool)), (.ow (.ow .sh)), (3, 0))], [((29, 0), (.val (.int .i64))), ((5, 0), (.val (.int .i64))), ((3, 0), (.own 0)), ((23, 0), (.val (.int .i64))), ((24, 0), (.val (.int .i64))), ((28, 0), (.val (.int .i64)))]⟩
             (.seq .leaf
             (.seq (.cond none
               .leaf
               .leaf)
             (.seq (.block ⟨[((.sl 43 (.sl 4 .bool)), (.ow (.ow .sh)), (3, 0))], [((5, 0), (.val (.int .i64))), ((3, 0), (.own 0)), ((23, 0), (.val (.int .i64))), ((24, 0), (.val (.int .i64))), ((28, 0), (.val (.int .i64))), ((29, 0), (.val (.int .i64)))]⟩ true
               (.seq .leaf
               (.seq (.seq .leaf
               (.cond none
                 .leaf
                 .leaf))
               (.seq .leaf
               (.block ⟨[((.sl 43 (.sl 4 .bool)), (.ow (.ow .sh)), (3, 0))], [((5, 0), (.val (.int .i64))), ((3, 0), (.own 0)), ((23, 0), (.val (.int .i64))), ((24, 0), (.val (.int .i64))), ((28, 0), (.val (.int .i64))), ((29, 0), (.val (.int .i64)))]⟩ true
                 (.loop ⟨[((.sl 43 (.sl 4 .bool)), (.ow (.ow .sh)), (3, 0))], [((42, 0), (.val (.int .i64))), ((5, 0), (.val (.int .i64))), ((3, 0), (.own 0)), ((6, 0), (.val (.int .i64))), ((23, 0), (.val (.int .i64))), ((24, 0), (.val (.int .i64))), ((28, 0), (.val (.int .i64))), ((29, 0), (.val (.int .i64))), ((41, 0), (.val (.int .i64)))]⟩
                   (.seq .leaf
                   (.seq (.cond none
                     .leaf
                     .leaf)
                   (.seq (.block ⟨[((.sl 43 (.sl 4 .bool)), (.ow (.ow .sh)), (3, 0))], [((5, 0), (.val (.int .i64))), ((3, 0), (.own 0)), ((6, 0), (.val (.int .i64))), ((23, 0), (.val (.int .i64))), ((24, 0), (.val (.int .i64))), ((28, 0), (.val (.int .i64))), ((29, 0), (.val (.int .i64))), ((41, 0), (.val (.int .i64))), ((42, 0), (.val (.int .i64)))]⟩ true
                     (.seq .leaf
                     .leaf))
                   .leaf)))))))))
             .leaf))))))))
       .leaf))))))
   (.seq .leaf
   .leaf)))))
def d9_K1  : ((((List (List Bool)) × Unit) × Unit) → (Option (((List (List Bool)) × Unit) × Unit))) :=
  (fun (x4 : (((List (List Bool)) × Unit) × Unit)) => (Option.some ((x4.1.1, ()), ())))
def d9_K2 (x5 : ((((List (List Bool)) × Unit) × (Int × (Int × Unit))) → (Option (((List (List Bool)) × Unit) × Unit)))) : ((((List (List Bool)) × Unit) × (Int × (Int × Unit))) → (Option (((List (List Bool)) × Unit) × Unit))) :=
  (fun (x8 : (((List (List Bool)) × Unit) × (Int × (Int × Unit)))) => (x5 ((x8.1.1, ()), ((Go.IntKind.wrap Go.IntKind.i64 (x8.2.2.1 + (1 : Int))), (x8.2.1, ())))))
def d9_K3 (x8 : ((((List (List Bool)) × Unit) × (Int × (Int × Unit))) → (Option (((List (List Bool)) × Unit) × Unit)))) : ((((List (List Bool)) × Unit) × (Int × (Int × Unit))) → (Option (((List (List Bool)) × Unit) × Unit))) :=
  (fun (x9 : (((List (List Bool)) × Unit) × (Int × (Int × Unit)))) => (x8 ((x9.1.1, ()), (x9.2.1, (x9.2.2.1, ())))))
def d9_K4 (x10 : ((((List (List Bool)) × Unit) × (Int × (Int × (Int × (Int × (Int × Unit)))))) → (Option (((List (List Bool)) × Unit) × Unit)))) : ((((List (List Bool)) × Unit) × (Int × (Int × (Int × (Int × (Int × Unit)))))) → (Option (((List (List Bool)) × Unit) × Unit))) :=
  (fun (x13 : (((List (List Bool)) × Unit) × (Int × (Int × (Int × (Int × (Int × Unit))))))) => (x10 ((x13.1.1, ()), ((Go.IntKind.wrap Go.IntKind.i64 (x13.2.2.2.2.2.1 + (1 : Int))), (x13.2.1, (x13.2.2.1, (x13.2.2.2.1, (x13.2.2.2.2.1, ()))))))))
def d9_K5 (x13 : ((((List (List Bool)) × Unit) × (Int × (Int × (Int × (Int × (Int × Unit)))))) → (Option (((List (List Bool)) × Unit) × Unit)))) : ((((List (List Bool)) × Unit) × (Int × (Int × (Int × (Int × (Int × Unit)))))) → (Option (((List (List Bool)) × Unit) × Unit))) :=
  (fun (x16 : (((List (List Bool)) × Unit) × (Int × (Int × (Int × (Int × (Int × Unit))))))) => (x13 ((x16.1.1, ()), (x16.2.1, (x16.2.2.1, (x16.2.2.2.1, (x16.2.2.2.2.1, (x16.2.2.2.2.2.1, ()))))))))
def d9_K6 (x17 : ((((List (List Bool)) × Unit) × (Int × (Int × (Int × (Int × (Int × (Int × (Int × (Int × Unit))))))))) → (Option (((List (List Bool)) × Unit) × Unit)))) : ((((List (List Bool)) × Unit) × (Int × (Int × (Int × (Int × (Int × (Int × (Int × (Int × Unit))))))))) → (Option (((List (List Bool)) × Unit) × Unit))) :=
  (fun (x20 : (((List (List Bool)) × Unit) × (Int × (Int × (Int × (Int × (Int × (Int × (Int × (Int × Unit)))))))))) => (x17 ((x20.1.1, ()), ((Go.IntKind.wrap Go.IntKind.i64 (x20.2.2.2.2.2.2.2.2.1 + (1 : Int))), (x20.2.1, (x20.2.2.1, (x20.2.2.2.1, (x20.2.2.2.2.1, (x20.2.2.2.2.2.1, (x20.2.2.2.2.2.2.1, (x20.2.2.2.2.2.2.2.1, ())))))))))))
def d9_L7 (x16 : ((((List (List Bool)) × Unit) × (Int × (Int × (Int × (Int × (Int × Unit)))))) → (Option (((List (List Bool)) × Unit) × Unit)))) : (((((List (List Bool)) × Unit) × (Int × (Int × (Int × (Int × (Int × (Int × (Int × (Int × Unit))))))))) → (Option (((List (List Bool)) × Unit) × Unit))) → ((((List (List Bool)) × Unit) × (Int × (Int × (Int × (Int × (Int × (Int × (Int × (Int × Unit))))))))) → (Option (((List (List Bool)) × Unit) × Unit)))) :=
  (fun (x17 : ((((List (List Bool)) × Unit) × (Int × (Int × (Int × (Int × (Int × (Int × (Int × (Int × Unit))))))))) → (Option (((List (List Bool)) × Unit) × Unit)))) => (fun (x18 : (((List (List Bool)) × Unit) × (Int × (Int × (Int × (Int × (Int × (Int × (Int × (Int × Unit)))))))))) => (lt (Decidable.decide (x18.2.1 < x18.2.2.2.2.2.2.2.2.1)) fun (x19 : Bool) =>
  (if (x19 = Bool.true) then
  (shr (d9_K6 x17) (fun (x20 : ((((List (List Bool)) × Unit) × (Int × (Int × (Int × (Int × (Int × (Int × (Int × (Int × Unit))))))))) → (Option (((List (List Bool)) × Unit) × Unit)))) => (if (((Decidable.decide ((0 : Int) ≤ x18.2.2.2.1)) && (Decidable.decide (x18.2.2.2.1 < (((List.length x18.1.1) : Nat) : Int)))) = Bool.true) then
  (if (((Decidable.decide ((Int.toNat x18.2.2.2.1) < (List.length x18.1.1))) && Bool.true) = Bool.true) then
  (if (((Decidable.decide ((0 : Int) ≤ x18.2.2.2.1)) && (Decidable.decide (x18.2.2.2.1 < (((List.length x18.1.1) : Nat) : Int)))) = Bool.true) then
  (if (((Decidable.decide ((Int.toNat x18.2.2.2.1) < (List.length x18.1.1))) && Bool.true) = Bool.true) then
  (if ((((Decidable.decide ((Int.toNat x18.2.2.2.1) < (List.length x18.1.1))) && Bool.true) && ((Decidable.decide ((0 : Int) ≤ x18.2.1)) && (Decidable.decide (x18.2.1 < (((List.length (List.getD x18.1.1 (Int.toNat x18.2.2.2.1) ([] : List Bool))) : Nat) : Int))))) = Bool.true) then
  (if (((Decidable.decide ((Int.toNat x18.2.2.2.1) < (List.length x18.1.1))) && ((Decidable.decide ((Int.toNat x18.2.1) < (List.length (List.getD x18.1.1 (Int.toNat x18.2.2.2.1) ([] : List Bool))))) && Bool.true)) = Bool.true) then
  (lt (List.getD (List.getD x18.1.1 (Int.toNat x18.2.2.2.1) ([] : List Bool)) (Int.toNat x18.2.1) Bool.false) fun (x21 : Bool) =>
  (if (((Bool.not ((x21 == Bool.false) && Bool.true)) || ((Decidable.decide ((0 : Int) ≤ x18.2.2.1)) && (Decidable.decide (x18.2.2.1 < (((List.length x18.1.1) : Nat) : Int))))) = Bool.true) then
  (if (((Bool.not ((x21 == Bool.false) && Bool.true)) || ((Decidable.decide ((Int.toNat x18.2.2.1) < (List.length x18.1.1))) && Bool.true)) = Bool.true) then
  (if (((Bool.not ((x21 == Bool.false) && Bool.true)) || (((Decidable.decide ((Int.toNat x18.2.2.1) < (List.length x18.1.1))) && Bool.true) && ((Decidable.decide ((0 : Int) ≤ x18.2.1)) && (Decidable.decide (x18.2.1 < (((List.length (List.getD x18.1.1 (Int.toNat x18.2.2.1) ([] : List Bool))) : Nat) : Int)))))) = Bool.true) then
  (if (((Bool.not ((x21 == Bool.false) && Bool.true)) || ((Decidable.decide ((Int.toNat x18.2.2.1) < (List.length x18.1.1))) && ((Decidable.decide ((Int.toNat x18.2.1) < (List.length (List.getD x18.1.1 (Int.toNat x18.2.2.1) ([] : List Bool))))) && Bool.true))) = Bool.true) then
  (lt (List.getD (List.getD x18.1.1 (Int.toNat x18.2.2.1) ([] : List Bool)) (Int.toNat x18.2.1) Bool.false) fun (x22 : Bool) =>
  (lt (if (x21 = Bool.true) then
  Bool.true
  else x22) fun (x23 : Bool) =>
  (if ((((Decidable.decide ((Int.toNat x18.2.2.2.1) < (List.length x18.1.1))) && Bool.true) && ((Decidable.decide ((0 : Int) ≤ x18.2.1)) && (Decidable.decide (x18.2.1 < (((List.length (List.getD x18.1.1 (Int.toNat x18.2.2.2.1) ([] : List Bool))) : Nat) : Int))))) = Bool.true) then
  (if (((Decidable.decide ((Int.toNat x18.2.2.2.1) < (List.length x18.1.1))) && ((Decidable.decide ((Int.toNat x18.2.1) < (List.length (List.getD x18.1.1 (Int.toNat x18.2.2.2.1) ([] : List Bool))))) && Bool.true)) = Bool.true) then
  (x20 (((List.set x18.1.1 (Int.toNat x18.2.2.2.1) (List.set (List.getD x18.1.1 (Int.toNat x18.2.2.2.1) ([] : List Bool)) (Int.toNat x18.2.1) x23)), ()), (x18.2.2.1, (x18.2.2.2.1, (x18.2.2.2.2.1, (x18.2.2.2.2.2.1, (x18.2.2.2.2.2.2.1, (x18.2.2.2.2.2.2.2.1, (x18.2.2.2.2.2.2.2.2.1, (x18.2.1, ()))))))))))
  else (Option.none))
  else (Option.none))))
  else (Option.none))
  else (Option.none))
  else (Option.none))
  else (Option.none)))
  else (Option.none))
  else (Option.none))
  else (Option.none))
  else (Option.none))
  else (Option.none))
  else (Option.none))))
  else (x16 ((x18.1.1, ()), (x18.2.2.1, (x18.2.2.2.2.1, (x18.2.2.2.2.2.1, (x18.2.2.2.2.2.2.1, (x18.2.2.2.2.2.2.2.1, ())))))))))))
def d9_L8 (x0 : Nat) (x9 : ((((List (List Bool)) × Unit) × (Int × (Int × Unit))) → (Option (((List (List Bool)) × Unit) × Unit)))) : (((((List (List Bool)) × Unit) × (Int × (Int × (Int × (Int × (Int × Unit)))))) → (Option (((List (List Bool)) × Unit) × Unit))) → ((((List (List Bool)) × Unit) × (Int × (Int × (Int × (Int × (Int × Unit)))))) → (Option (((List (List Bool)) × Unit) × Unit)))) :=
  (fun (x10 : ((((List (List Bool)) × Unit) × (Int × (Int × (Int × (Int × (Int × Unit)))))) → (Option (((List (List Bool)) × Unit) × Unit)))) => (fun (x11 : (((List (List Bool)) × Unit) × (Int × (Int × (Int × (Int × (Int × Unit))))))) => (lt (Decidable.decide (x11.2.1 < x11.2.2.2.2.2.1)) fun (x12 : Bool) =>
  (if (x12 = Bool.true) then
  (shr (d9_K4 x10) (fun (x13 : ((((List (List Bool)) × Unit) × (Int × (Int × (Int × (Int × (Int × Unit)))))) → (Option (((List (List Bool)) × Unit) × Unit)))) => (if (((Decidable.decide ((0 : Int) ≤ x11.2.1)) && (Decidable.decide (x11.2.1 < (((List.length x11.1.1) : Nat) : Int)))) = Bool.true) then
  (if (((Decidable.decide ((Int.toNat x11.2.1) < (List.length x11.1.1))) && Bool.true) = Bool.true) then
  (if ((((Decidable.decide ((Int.toNat x11.2.1) < (List.length x11.1.1))) && Bool.true) && ((Decidable.decide ((0 : Int) ≤ x11.2.2.1)) && (Decidable.decide (x11.2.2.1 < (((List.length (List.getD x11.1.1 (Int.toNat x11.2.1) ([] : List Bool))) : Nat) : Int))))) = Bool.true) then
  (if (((Decidable.decide ((Int.toNat x11.2.1) < (List.length x11.1.1))) && ((Decidable.decide ((Int.toNat x11.2.2.1) < (List.length (List.getD x11.1.1 (Int.toNat x11.2.1) ([] : List Bool))))) && Bool.true)) = Bool.true) then
  (lt (List.getD (List.getD x11.1.1 (Int.toNat x11.2.1) ([] : List Bool)) (Int.toNat x11.2.2.1) Bool.false) fun (x14 : Bool) =>
  (lt (Bool.not x14) fun (x15 : Bool) =>
  (if (x15 = Bool.true) then
  (x13 ((x11.1.1, ()), (x11.2.2.1, (x11.2.2.2.1, (x11.2.2.2.2.1, (x11.2.2.2.2.2.1, (x11.2.1, ())))))))
  else (shr (d9_K5 x13) (fun (x16 : ((((List (List Bool)) × Unit) × (Int × (Int × (Int × (Int × (Int × Unit)))))) → (Option (((List (List Bool)) × Unit) × Unit)))) => (loopN (d9_L7 x16) x0 ((x11.1.1, ()), ((0 : Int), (x11.2.2.1, (x11.2.1, (x11.2.2.2.1, (x11.2.2.2.2.1, (x11.2.2.2.2.2.1, (x11.2.1, ((((List.length x11.1.1) : Nat) : Int), ())))))))))))))))
  else (Option.none))
  else (Option.none))
  else (Option.none))
  else (Option.none))))
  else (x9 ((x11.1.1, ()), (x11.2.2.2.1, (x11.2.2.2.2.1, ()))))))))
def d9_L9 (x0 : Nat) (x4 : ((((List (List Bool)) × Unit) × Unit) → (Option (((List (List Bool)) × Unit) × Unit)))) : (((((List (List Bool)) × Unit) × (Int × (Int × Unit))) → (Option (((List (List Bool)) × Unit) × Unit))) → ((((List (List Bool)) × Unit) × (Int × (Int × Unit))) → (Option (((List (List Bool)) × Unit) × Unit)))) :=
  (fun (x5 : ((((List (List Bool)) × Unit) × (Int × (Int × Unit))) → (Option (((List (List Bool)) × Unit) × Unit)))) => (fun (x6 : (((List (List Bool)) × Unit) × (Int × (Int × Unit)))) => (lt (Decidable.decide (x6.2.1 < x6.2.2.1)) fun (x7 : Bool) =>
  (if (x7 = Bool.true) then
  (shr (d9_K2 x5) (fun (x8 : ((((List (List Bool)) × Unit) × (Int × (Int × Unit))) → (Option (((List (List Bool)) × Unit) × Unit)))) => (shr (d9_K3 x8) (fun (x9 : ((((List (List Bool)) × Unit) × (Int × (Int × Unit))) → (Option (((List (List Bool)) × Unit) × Unit)))) => (loopN (d9_L8 x0 x9) x0 ((x6.1.1, ()), ((0 : Int), (x6.2.1, (x6.2.2.1, (x6.2.1, ((((List.length x6.1.1) : Nat) : Int), ())))))))))))
  else (x4 ((x6.1.1, ()), ()))))))
def d9_K10 (x0 : Nat) : ((((List (List Bool)) × Unit) × Unit) → (Option (((List (List Bool)) × Unit) × Unit))) :=
  (fun (x3 : (((List (List Bool)) × Unit) × Unit)) => (shr d9_K1 (fun (x4 : ((((List (List Bool)) × Unit) × Unit) → (Option (((List (List Bool)) × Unit) × Unit)))) => (loopN (d9_L9 x0 x4) x0 ((x3.1.1, ()), ((0 : Int), ((((List.length x3.1.1) : Nat) : Int), ())))))))
def d9_K11 (x4 : ((((List (List Bool)) × Unit) × (Int × (Int × Unit))) → (Option (((List (List Bool)) × Unit) × Unit)))) : ((((List (List Bool)) × Unit) × (Int × (Int × Unit))) → (Option (((List (List Bool)) × Unit) × Unit))) :=
  (fun (x7 : (((List (List Bool)) × Unit) × (Int × (Int × Unit)))) => (x4 ((x7.1.1, ()), ((Go.IntKind.wrap Go.IntKind.i64 (x7.2.2.1 + (1 : Int))), (x7.2.1, ())))))
def d9_L12 (x3 : ((((List (List Bool)) × Unit) × Unit) → (Option (((List (List Bool)) × Unit) × Unit)))) : (((((List (List Bool)) × Unit) × (Int × (Int × Unit))) → (Option (((List (List Bool)) × Unit) × Unit))) → ((((List (List Bool)) × Unit) × (Int × (Int × Unit))) → (Option (((List (List Bool)) × Unit) × Unit)))) :=
  (fun (x4 : ((((List (List Bool)) × Unit) × (Int × (Int × Unit))) → (Option (((List (List Bool)) × Unit) × Unit)))) => (fun (x5 : (((List (List Bool)) × Unit) × (Int × (Int × Unit)))) => (lt (Decidable.decide (x5.2.1 < x5.2.2.1)) fun (x6 : Bool) =>
  (if (x6 = Bool.true) then
  (shr (d9_K11 x4) (fun (x7 : ((((List (List Bool)) × Unit) × (Int × (Int × Unit))) → (Option (((List (List Bool)) × Unit) × Unit)))) => (if (((Decidable.decide ((0 : Int) ≤ x5.2.1)) && (Decidable.decide (x5.2.1 < (((List.length x5.1.1) : Nat) : Int)))) = Bool.true) then
  (if (((Decidable.decide ((Int.toNat x5.2.1) < (List.length x5.1.1))) && Bool.true) = Bool.true) then
  (if ((((Decidable.decide ((Int.toNat x5.2.1) < (List.length x5.1.1))) && Bool.true) && ((Decidable.decide ((0 : Int) ≤ x5.2.1)) && (Decidable.decide (x5.2.1 < (((List.length (List.getD x5.1.1 (Int.toNat x5.2.1) ([] : List Bool))) : Nat) : Int))))) = Bool.true) then
  (if (((Decidable.decide ((Int.toNat x5.2.1) < (List.length x5.1.1))) && ((Decidable.decide ((Int.toNat x5.2.1) < (List.length (List.getD x5.1.1 (Int.toNat x5.2.1) ([] : List Bool))))) && Bool.true)) = Bool.true) then
  (x7 (((List.set x5.1.1 (Int.toNat x5.2.1) (List.set (List.getD x5.1.1 (Int.toNat x5.2.1) ([] : List Bool)) (Int.toNat x5.2.1) Bool.true)), ()), (x5.2.2.1, (x5.2.1, ()))))
  else (Option.none))
  else (Option.none))
  else (Option.none))
  else (Option.none))))
  else (x3 ((x5.1.1, ()), ()))))))
def d9 : (Nat → ((IM × Unit) → (Option (((List (List Bool)) × Unit) × Unit)))) :=
  (fun (x0 : Nat) => (fun (x1 : (IM × Unit)) => (Option.bind (d8 x0 (x1.1, ())) fun (x2 : (((List (List Bool)) × Unit) × Unit)) =>
  (shr (d9_K10 x0) (fun (x3 : ((((List (List Bool)) × Unit) × Unit) → (Option (((List (List Bool)) × Unit) × Unit)))) => (loopN (d9_L12 x3) x0 ((x2.1.1, ()), ((0 : Int), ((((List.length x2.1.1) : Nat) : Int), ())))))))))
theorem k9 : c_fn Tryd.prog [(8, ⟨s8, d8⟩)] Tryd.f9 s9 h9 = some d9 := by kernel_rfl
/-- bulkhead/bulkheadlaw24.forced -/
def s23 : Sig := ⟨[((.sl 43 (.sl 4 .bool)), .val), ((.sl 43 (.sl 4 .bool)), .val), ((.int .i64), .val)], [(.bool, .val)]⟩
 def h23 : Hint := (.seq .leaf
   (.seq .leaf
   (.seq .leaf
   (.seq .leaf
   (.seq (.seq .leaf
   (.block ⟨[((.sl 4 .bool), (.ow .sh), (8, 0))], [((8, 0), (.own 0)), ((2, 0), (.val (.int .i64))), ((1, 0), (.val (.sl 43 (.sl 4 .bool)))), ((7, 0), (.val (.int .i64)))]⟩ true
     (.loop ⟨[((.sl 4 .bool), (.ow .sh), (8, 0))], [((0, 0), (.val (.sl 43 (.sl 4 .bool)))), ((8, 0), (.own 0)), ((7, 0), (.val (.int .i64))), ((9, 0), (.val (.int .i64))), ((2, 0), (.val (.int .i64))), ((1, 0), (.val (.sl 43 (.sl 4 .bool))))]⟩
       (.seq (.seq .leaf
       (.cond none
         .leaf
         .leaf))
       (.seq (.block ⟨[((.sl 4 .bool), (.ow .sh), (8, 0))], [((0, 0), (.val (.sl 43 (.sl 4 .bool)))), ((8, 0), (.own 0)), ((7, 0), (.val (.int .i64))), ((2, 0), (.val (.int .i64))), ((1, 0), (.val (.sl 43 (.sl 4 .bool)))), ((9, 0), (.val (.int .i64)))]⟩ true
         (.seq .leaf
         (.block ⟨[((.sl 4 .bool), (.ow .sh), (8, 0))], [((0, 0), (.val (.sl 43 (.sl 4 .bool)))), ((8, 0), (.own 0)), ((7, 0), (.val (.int .i64))), ((2, 0), (.val (.int .i64))), ((1, 0), (.val (.sl 43 (.sl 4 .bool)))), ((9, 0), (.val (.int .i64)))]⟩ true
           (.loop ⟨[((.sl 4 .bool), (.ow .sh), (8, 0))], [((10, 0), (.val (.int .i64))), ((0, 0), (.val (.sl 43 (.sl 4 .bool)))), ((8, 0), (.own 0)), ((7, 0), (.val (.int .i64))), ((2, 0), (.val (.int .i64))), ((1, 0), (.val (.sl 43 (.sl 4 .bool)))), ((9, 0), (.val (.int .i64)))]⟩
             (.seq (.seq .leaf
             (.cond none
               .leaf
               .leaf))
             (.seq (.block ⟨[((.sl 4 .bool), (.ow .sh), (8, 0))], [((0, 0), (.val (.sl 43 (.sl 4 .bool)))), ((8, 0), (.own 0)), ((7, 0), (.val (.int .i64))), ((2, 0), (.val (.int .i64))), ((1, 0), (.val (.sl 43 (.sl 4 .bool)))), ((9, 0), (.val (.int .i64))), ((10, 0), (.val (.int .i64)))]⟩ true
               (.seq .leaf
               (.block ⟨[((.sl 4 .bool), (.ow .sh), (8, 0))], [((0, 0), (.val (.sl 43 (.sl 4 .bool)))), ((8, 0), (.own 0)), ((7, 0), (.val (.int .i64))), ((2, 0), (.val (.int .i64))), ((1, 0), (.val (.sl 43 (.sl 4 .bool)))), ((9, 0), (.val (.int .i64))), ((10, 0), (.val (.int .i64)))]⟩ true
                 (.loop ⟨[((.sl 4 .bool), (.ow .sh), (8, 0))], [((11, 0), (.val (.int .i64))), ((10, 0), (.val (.int .i64))), ((0, 0), (.val (.sl 43 (.sl 4 .bool)))), ((8, 0), (.own 0)), ((7, 0), (.val (.int .i64))), ((2, 0), (.val (.int .i64))), ((1, 0), (.val (.sl 43 (.sl 4 .bool)))), ((9, 0), (.val (.int .i64)))]⟩
                   (.seq (.seq .leaf
                   (.cond none
                     .leaf
                     .leaf))
                   (.seq (.block ⟨[((.sl 4 .bool), (.ow .sh), (8, 0))], [((10, 0), (.val (.int .i64))), ((0, 0), (.val (.sl 43 (.sl 4 .bool)))), ((8, 0), (.own 0)), ((7, 0), (.val (.int .i64))), ((2, 0), (.val (.int .i64))), ((1, 0), (.val (.sl 43 (.sl 4 .bool)))), ((9, 0), (.val (.int .i64))), ((11, 0), (.val (.int .i64)))]⟩ true
                     .leaf)
                   .leaf))))))
             .leaf))))))
       .leaf)))))
   (.seq (.seq .leaf
   (.block ⟨[], []⟩ true
     (.loop ⟨[((.sl 4 .bool), (.ow .sh), (8, 0))], [((12, 0), (.val (.int .i64))), ((8, 0), (.own 0)), ((2, 0), (.val (.int .i64))), ((1, 0), (.val (.sl 43 (.sl 4 .bool)))), ((7, 0), (.val (.int .i64)))]⟩
       (.seq (.seq .leaf
       (.cond none
         .leaf
         .leaf))
       (.seq (.block ⟨[((.sl 4 .bool), (.ow .sh), (8, 0))], [((8, 0), (.own 0)), ((2, 0), (.val (.int .i64))), ((1, 0), (.val (.sl 43 (.sl 4 .bool)))), ((7, 0), (.val (.int .i64))), ((12, 0), (.val (.int .i64)))]⟩ true
         (.seq .leaf
         (.cond none
           (.seq .leaf
           .leaf)
           .leaf)))
       .leaf)))))
   (.seq .leaf
   .leaf)))))))
def d23_K1 (x6 : ((((List Bool) × Unit) × (Int × (Int × ((List (List Bool)) × (Int × Unit))))) → (Option ((Bool × Unit) × Unit)))) : ((((List Bool) × Unit) × (Int × ((List (List Bool)) × (Int × (Int × Unit))))) → (Option ((Bool × Unit) × Unit))) :=
  (fun (x9 : (((List Bool) × Unit) × (Int × ((List (List Bool)) × (Int × (Int × Unit)))))) => (x6 ((x9.1.1, ()), ((Go.IntKind.wrap Go.IntKind.i64 (x9.2.2.2.2.1 + (1 : Int))), (x9.2.1, (x9.2.2.1, (x9.2.2.2.1, ())))))))
def d23_L2 (x5 : ((Unit × Unit) → (Option ((Bool × Unit) × Unit)))) : (((((List Bool) × Unit) × (Int × (Int × ((List (List Bool)) × (Int × Unit))))) → (Option ((Bool × Unit) × Unit))) → ((((List Bool) × Unit) × (Int × (Int × ((List (List Bool)) × (Int × Unit))))) → (Option ((Bool × Unit) × Unit)))) :=
  (fun (x6 : ((((List Bool) × Unit) × (Int × (Int × ((List (List Bool)) × (Int × Unit))))) → (Option ((Bool × Unit) × Unit)))) => (fun (x7 : (((List Bool) × Unit) × (Int × (Int × ((List (List Bool)) × (Int × Unit)))))) => (lt (Decidable.decide (x7.2.1 < x7.2.2.2.2.1)) fun (x8 : Bool) =>
  (if (x8 = Bool.true) then
  (shr (d23_K1 x6) (fun (x9 : ((((List Bool) × Unit) × (Int × ((List (List Bool)) × (Int × (Int × Unit))))) → (Option ((Bool × Unit) × Unit)))) => (if (((Decidable.decide ((0 : Int) ≤ x7.2.2.1)) && (Decidable.decide (x7.2.2.1 < (((List.length x7.2.2.2.1) : Nat) : Int)))) = Bool.true) then
  (lt (List.getD x7.2.2.2.1 (Int.toNat x7.2.2.1) ([] : List Bool)) fun (x10 : (List Bool)) =>
  (if (((Decidable.decide ((0 : Int) ≤ x7.2.1)) && (Decidable.decide (x7.2.1 < (((List.length x10) : Nat) : Int)))) = Bool.true) then
  (lt (List.getD x10 (Int.toNat x7.2.1) Bool.false) fun (x11 : Bool) =>
  (if (((Bool.not ((x11 == Bool.true) && Bool.true)) || ((Decidable.decide ((0 : Int) ≤ x7.2.1)) && (Decidable.decide (x7.2.1 < (((List.length x7.1.1) : Nat) : Int))))) = Bool.true) then
  (if (((Bool.not ((x11 == Bool.true) && Bool.true)) || ((Decidable.decide ((Int.toNat x7.2.1) < (List.length x7.1.1))) && Bool.true)) = Bool.true) then
  (lt (List.getD x7.1.1 (Int.toNat x7.2.1) Bool.false) fun (x12 : Bool) =>
  (lt (Bool.not x12) fun (x13 : Bool) =>
  (lt (if (x11 = Bool.true) then
  x13
  else Bool.false) fun (x14 : Bool) =>
  (if (x14 = Bool.true) then
  (Option.some ((Bool.false, ()), ()))
  else (x9 ((x7.1.1, ()), (x7.2.2.1, (x7.2.2.2.1, (x7.2.2.2.2.1, (x7.2.1, ()))))))))))
  else (Option.none))
  else (Option.none)))
  else (Option.none)))
  else (Option.none))))
  else (x5 ((), ()))))))
def d23_K3 (x0 : Nat) : ((((List Bool) × Unit) × (Int × ((List (List Bool)) × (Int × Unit)))) → (Option ((Bool × Unit) × Unit))) :=
  (fun (x4 : (((List Bool) × Unit) × (Int × ((List (List Bool)) × (Int × Unit))))) => (shr (fun (x5 : (Unit × Unit)) => (Option.some ((Bool.true, ()), ()))) (fun (x5 : ((Unit × Unit) → (Option ((Bool × Unit) × Unit)))) => (loopN (d23_L2 x5) x0 ((x4.1.1, ()), ((0 : Int), (x4.2.1, (x4.2.2.1, (x4.2.2.2.1, ())))))))))
def d23_K4 (x5 : ((((List Bool) × Unit) × ((List (List Bool)) × (Int × (Int × (Int × ((List (List Bool)) × Unit)))))) → (Option ((Bool × Unit) × Unit)))) : ((((List Bool) × Unit) × ((List (List Bool)) × (Int × (Int × ((List (List Bool)) × (Int × Unit)))))) → (Option ((Bool × Unit) × Unit))) :=
  (fun (x8 : (((List Bool) × Unit) × ((List (List Bool)) × (Int × (Int × ((List (List Bool)) × (Int × Unit))))))) => (x5 ((x8.1.1, ()), (x8.2.1, (x8.2.2.1, ((Go.IntKind.wrap Go.IntKind.i64 (x8.2.2.2.2.2.1 + (1 : Int))), (x8.2.2.2.1, (x8.2.2.2.2.1, ()))))))))
def d23_K5 (x8 : ((((List Bool) × Unit) × ((List (List Bool)) × (Int × (Int × ((List (List Bool)) × (Int × Unit)))))) → (Option ((Bool × Unit) × Unit)))) : ((((List Bool) × Unit) × ((List (List Bool)) × (Int × (Int × ((List (List Bool)) × (Int × Unit)))))) → (Option ((Bool × Unit) × Unit))) :=
  (fun (x9 : (((List Bool) × Unit) × ((List (List Bool)) × (Int × (Int × ((List (List Bool)) × (Int × Unit))))))) => (x8 ((x9.1.1, ()), (x9.2.1, (x9.2.2.1, (x9.2.2.2.1, (x9.2.2.2.2.1, (x9.2.2.2.2.2.1, ()))))))))
def d23_K6 (x10 : ((((List Bool) × Unit) × (Int × ((List (List Bool)) × (Int × (Int × ((List (List Bool)) × (Int × Unit))))))) → (Option ((Bool × Unit) × Unit)))) : ((((List Bool) × Unit) × ((List (List Bool)) × (Int × (Int × ((List (List Bool)) × (Int × (Int × Unit))))))) → (Option ((Bool × Unit) × Unit))) :=
  (fun (x13 : (((List Bool) × Unit) × ((List (List Bool)) × (Int × (Int × ((List (List Bool)) × (Int × (Int × Unit)))))))) => (x10 ((x13.1.1, ()), ((Go.IntKind.wrap Go.IntKind.i64 (x13.2.2.2.2.2.2.1 + (1 : Int))), (x13.2.1, (x13.2.2.1, (x13.2.2.2.1, (x13.2.2.2.2.1, (x13.2.2.2.2.2.1, ())))))))))
def d23_K7 (x13 : ((((List Bool) × Unit) × ((List (List Bool)) × (Int × (Int × ((List (List Bool)) × (Int × (Int × Unit))))))) → (Option ((Bool × Unit) × Unit)))) : ((((List Bool) × Unit) × ((List (List Bool)) × (Int × (Int × ((List (List Bool)) × (Int × (Int × Unit))))))) → (Option ((Bool × Unit) × Unit))) :=
  (fun (x14 : (((List Bool) × Unit) × ((List (List Bool)) × (Int × (Int × ((List (List Bool)) × (Int × (Int × Unit)))))))) => (x13 ((x14.1.1, ()), (x14.2.1, (x14.2.2.1, (x14.2.2.2.1, (x14.2.2.2.2.1, (x14.2.2.2.2.2.1, (x14.2.2.2.2.2.2.1, ())))))))))
def d23_K8 (x15 : ((((List Bool) × Unit) × (Int × (Int × ((List (List Bool)) × (Int × (Int × ((List (List Bool)) × (Int × Unit)))))))) → (Option ((Bool × Unit) × Unit)))) : ((((List Bool) × Unit) × (Int × ((List (List Bool)) × (Int × (Int × ((List (List Bool)) × (Int × (Int × Unit)))))))) → (Option ((Bool × Unit) × Unit))) :=
  (fun (x20 : (((List Bool) × Unit) × (Int × ((List (List Bool)) × (Int × (Int × ((List (List Bool)) × (Int × (Int × Unit))))))))) => (x15 ((x20.1.1, ()), ((Go.IntKind.wrap Go.IntKind.i64 (x20.2.2.2.2.2.2.2.1 + (1 : Int))), (x20.2.1, (x20.2.2.1, (x20.2.2.2.1, (x20.2.2.2.2.1, (x20.2.2.2.2.2.1, (x20.2.2.2.2.2.2.1, ()))))))))))
def d23_L9 (x14 : ((((List Bool) × Unit) × ((List (List Bool)) × (Int × (Int × ((List (List Bool)) × (Int × (Int × Unit))))))) → (Option ((Bool × Unit) × Unit)))) : (((((List Bool) × Unit) × (Int × (Int × ((List (List Bool)) × (Int × (Int × ((List (List Bool)) × (Int × Unit)))))))) → (Option ((Bool × Unit) × Unit))) → ((((List Bool) × Unit) × (Int × (Int × ((List (List Bool)) × (Int × (Int × ((List (List Bool)) × (Int × Unit)))))))) → (Option ((Bool × Unit) × Unit)))) :=
  (fun (x15 : ((((List Bool) × Unit) × (Int × (Int × ((List (List Bool)) × (Int × (Int × ((List (List Bool)) × (Int × Unit)))))))) → (Option ((Bool × Unit) × Unit)))) => (fun (x16 : (((List Bool) × Unit) × (Int × (Int × ((List (List Bool)) × (Int × (Int × ((List (List Bool)) × (Int × Unit))))))))) => (lt (Decidable.decide (x16.2.1 < x16.2.2.2.2.1)) fun (x17 : Bool) =>
  (if (((Bool.not ((x17 == Bool.true) && Bool.true)) || ((Decidable.decide ((0 : Int) ≤ x16.2.2.1)) && (Decidable.decide (x16.2.2.1 < (((List.length x16.1.1) : Nat) : Int))))) = Bool.true) then
  (if (((Bool.not ((x17 == Bool.true) && Bool.true)) || ((Decidable.decide ((Int.toNat x16.2.2.1) < (List.length x16.1.1))) && Bool.true)) = Bool.true) then
  (lt (List.getD x16.1.1 (Int.toNat x16.2.2.1) Bool.false) fun (x18 : Bool) =>
  (lt (if (x17 = Bool.true) then
  x18
  else Bool.false) fun (x19 : Bool) =>
  (if (x19 = Bool.true) then
  (shr (d23_K8 x15) (fun (x20 : ((((List Bool) × Unit) × (Int × ((List (List Bool)) × (Int × (Int × ((List (List Bool)) × (Int × (Int × Unit)))))))) → (Option ((Bool × Unit) × Unit)))) => (if (((Decidable.decide ((0 : Int) ≤ x16.2.1)) && (Decidable.decide (x16.2.1 < (((List.length x16.1.1) : Nat) : Int)))) = Bool.true) then
  (if (((Decidable.decide ((Int.toNat x16.2.1) < (List.length x16.1.1))) && Bool.true) = Bool.true) then
  (lt (List.getD x16.1.1 (Int.toNat x16.2.1) Bool.false) fun (x21 : Bool) =>
  (if (((Bool.not ((x21 == Bool.false) && Bool.true)) || ((Decidable.decide ((0 : Int) ≤ x16.2.2.1)) && (Decidable.decide (x16.2.2.1 < (((List.length x16.2.2.2.1) : Nat) : Int))))) = Bool.true) then
  (lt (List.getD x16.2.2.2.1 (Int.toNat x16.2.2.1) ([] : List Bool)) fun (x22 : (List Bool)) =>
  (if (((Bool.not ((x21 == Bool.false) && Bool.true)) || ((Decidable.decide ((0 : Int) ≤ x16.2.1)) && (Decidable.decide (x16.2.1 < (((List.length x22) : Nat) : Int))))) = Bool.true) then
  (lt (List.getD x22 (Int.toNat x16.2.1) Bool.false) fun (x23 : Bool) =>
  (lt (if (x21 = Bool.true) then
  Bool.true
  else x23) fun (x24 : Bool) =>
  (if (((Decidable.decide ((0 : Int) ≤ x16.2.1)) && (Decidable.decide (x16.2.1 < (((List.length x16.1.1) : Nat) : Int)))) = Bool.true) then
  (if (((Decidable.decide ((Int.toNat x16.2.1) < (List.length x16.1.1))) && Bool.true) = Bool.true) then
  (x20 (((List.set x16.1.1 (Int.toNat x16.2.1) x24), ()), (x16.2.2.1, (x16.2.2.2.1, (x16.2.2.2.2.1, (x16.2.2.2.2.2.1, (x16.2.2.2.2.2.2.1, (x16.2.2.2.2.2.2.2.1, (x16.2.1, ())))))))))
  else (Option.none))
  else (Option.none))))
  else (Option.none)))
  else (Option.none)))
  else (Option.none))
  else (Option.none))))
  else (x14 ((x16.1.1, ()), (x16.2.2.2.1, (x16.2.2.2.2.1, (x16.2.2.2.2.2.1, (x16.2.2.2.2.2.2.1, (x16.2.2.2.2.2.2.2.1, (x16.2.2.1, ())))))))))))
  else (Option.none))
  else (Option.none)))))
def d23_L10 (x0 : Nat) (x9 : ((((List Bool) × Unit) × ((List (List Bool)) × (Int × (Int × ((List (List Bool)) × (Int × Unit)))))) → (Option ((Bool × Unit) × Unit)))) : (((((List Bool) × Unit) × (Int × ((List (List Bool)) × (Int × (Int × ((List (List Bool)) × (Int × Unit))))))) → (Option ((Bool × Unit) × Unit))) → ((((List Bool) × Unit) × (Int × ((List (List Bool)) × (Int × (Int × ((List (List Bool)) × (Int × Unit))))))) → (Option ((Bool × Unit) × Unit)))) :=
  (fun (x10 : ((((List Bool) × Unit) × (Int × ((List (List Bool)) × (Int × (Int × ((List (List Bool)) × (Int × Unit))))))) → (Option ((Bool × Unit) × Unit)))) => (fun (x11 : (((List Bool) × Unit) × (Int × ((List (List Bool)) × (Int × (Int × ((List (List Bool)) × (Int × Unit)))))))) => (lt (Decidable.decide (x11.2.1 < x11.2.2.2.1)) fun (x12 : Bool) =>
  (if (x12 = Bool.true) then
  (shr (d23_K6 x10) (fun (x13 : ((((List Bool) × Unit) × ((List (List Bool)) × (Int × (Int × ((List (List Bool)) × (Int × (Int × Unit))))))) → (Option ((Bool × Unit) × Unit)))) => (shr (d23_K7 x13) (fun (x14 : ((((List Bool) × Unit) × ((List (List Bool)) × (Int × (Int × ((List (List Bool)) × (Int × (Int × Unit))))))) → (Option ((Bool × Unit) × Unit)))) => (loopN (d23_L9 x14) x0 ((x11.1.1, ()), ((0 : Int), (x11.2.1, (x11.2.2.1, (x11.2.2.2.1, (x11.2.2.2.2.1, (x11.2.2.2.2.2.1, (x11.2.2.2.2.2.2.1, ())))))))))))))
  else (x9 ((x11.1.1, ()), (x11.2.2.1, (x11.2.2.2.1, (x11.2.2.2.2.1, (x11.2.2.2.2.2.1, (x11.2.2.2.2.2.2.1, ())))))))))))
def d23_L11 (x0 : Nat) (x4 : ((((List Bool) × Unit) × (Int × ((List (List Bool)) × (Int × Unit)))) → (Option ((Bool × Unit) × Unit)))) : (((((List Bool) × Unit) × ((List (List Bool)) × (Int × (Int × (Int × ((List (List Bool)) × Unit)))))) → (Option ((Bool × Unit) × Unit))) → ((((List Bool) × Unit) × ((List (List Bool)) × (Int × (Int × (Int × ((List (List Bool)) × Unit)))))) → (Option ((Bool × Unit) × Unit)))) :=
  (fun (x5 : ((((List Bool) × Unit) × ((List (List Bool)) × (Int × (Int × (Int × ((List (List Bool)) × Unit)))))) → (Option ((Bool × Unit) × Unit)))) => (fun (x6 : (((List Bool) × Unit) × ((List (List Bool)) × (Int × (Int × (Int × ((List (List Bool)) × Unit))))))) => (lt (Decidable.decide (x6.2.2.2.1 < x6.2.2.1)) fun (x7 : Bool) =>
  (if (x7 = Bool.true) then
  (shr (d23_K4 x5) (fun (x8 : ((((List Bool) × Unit) × ((List (List Bool)) × (Int × (Int × ((List (List Bool)) × (Int × Unit)))))) → (Option ((Bool × Unit) × Unit)))) => (shr (d23_K5 x8) (fun (x9 : ((((List Bool) × Unit) × ((List (List Bool)) × (Int × (Int × ((List (List Bool)) × (Int × Unit)))))) → (Option ((Bool × Unit) × Unit)))) => (loopN (d23_L10 x0 x9) x0 ((x6.1.1, ()), ((0 : Int), (x6.2.1, (x6.2.2.1, (x6.2.2.2.2.1, (x6.2.2.2.2.2.1, (x6.2.2.2.1, ()))))))))))))
  else (x4 ((x6.1.1, ()), (x6.2.2.2.2.1, (x6.2.2.2.2.2.1, (x6.2.2.1, ())))))))))
def d23 : (Nat → (((List (List Bool)) × ((List (List Bool)) × (Int × Unit))) → (Option ((Bool × Unit) × Unit)))) :=
  (fun (x0 : Nat) => (fun (x1 : ((List (List Bool)) × ((List (List Bool)) × (Int × Unit)))) => (lt (((List.length x1.1) : Nat) : Int) fun (x2 : Int) =>
  (if (((((Decidable.decide ((0 : Int) ≤ x2)) && (Decidable.decide (x2 ≤ x2))) && (Decidable.decide (((((1 : Nat) : Nat) : Int) * x2) ≤ (281474976710656 : Int)))) && (Decidable.decide (x2 ≤ (9223372036854775807 : Int)))) = Bool.true) then
  (lt (List.replicate (Int.toNat x2) Bool.false) fun (x3 : (List Bool)) =>
  (if (((Decidable.decide ((0 : Int) ≤ x1.2.2.1)) && (Decidable.decide (x1.2.2.1 < (((List.length x3) : Nat) : Int)))) = Bool.true) then
  (if (((Decidable.decide ((Int.toNat x1.2.2.1) < (List.length x3))) && Bool.true) = Bool.true) then
  (shr (d23_K3 x0) (fun (x4 : ((((List Bool) × Unit) × (Int × ((List (List Bool)) × (Int × Unit)))) → (Option ((Bool × Unit) × Unit)))) => (loopN (d23_L11 x0 x4) x0 (((List.set x3 (Int.toNat x1.2.2.1) Bool.true), ()), (x1.1, (x2, ((0 : Int), (x1.2.2.1, (x1.2.1, ())))))))))
  else (Option.none))
  else (Option.none)))
  else (Option.none)))))
theorem k23 : c_fn Tryd.prog [] Tryd.f23 s23 h23 = some d23 := by kernel_rfl
/-- bulkhead/flow.Sources -/
def s12 : Sig := ⟨[((.pair (.sl 55 (.pair (.pair (.int .i64) (.pair (.int .i64) (.pair (.int .i64) (.pair (.int .i64) .unit)))) (.pair (.int .i64) (.pair (.int .i64) (.pair (.sl 2 (.int .i64)) (.pair (.sl 57 (.pair (.int .u8) (.pair (.int .u8) (.pair (.int .u8) (.pair (.int .u8) (.pair (.int .i32) .unit)))))) (.pair (.sl 94 (.pair (.int .i64) (.pair (.int .i64) (.pair (.int .i64) (.pair (.int .i64) (.pair (.int .i64) (.pair .bool .unit))))))) (.pair (.int .i64) (.pair (.arr 8 (.int .i64)) (.pair (.sl 96 (.pair (.int .i64) (.pair (.int .i64) .unit))) (.pair (.sl 4 .bool) (.pair (.sl 98 (.pair (.int .i64) (.pair (.int .i64) .unit))) .unit)))))))))))) (.pair (.sl 65 (.pair (.int .i64) (.pair (.int .i64) (.pair .bool (.pair (.int .i64) (.pair (.int .i64) (.pair (.int .i64) .unit))))))) (.pair (.sl 62 (.pair (.int .i64) (.pair (.int .i64) (.pair (.sl 3 (.int .i64)) (.pair (.int .i64) (.pair (.int .i64) .unit)))))) .unit))), .val), ((.int .i64), .val)], [((.sl 3 (.int .i64)), (.own (.ow .sh))), ((.int .i64), .val)]⟩
 def h12 : Hint := (.seq .leaf
   (.seq (.seq .leaf
   (.cond none
     (.seq .leaf
     .leaf)
     .leaf))
   (.seq .leaf
   (.seq (.seq .leaf
   (.block ⟨[((.sl 3 (.int .i64)), (.ow .sh), (6, 0))], [((6, 0), (.own 0))]⟩ true
     (.loop ⟨[((.sl 3 (.int .i64)), (.ow .sh), (6, 0)), ((.sl 43 (.sl 4 .bool)), (.ow (.ow .sh)), (14, 0))], [((16, 0), (.val (.int .i64))), ((6, 0), (.own 0)), ((1, 0), (.val (.int .i64))), ((14, 0), (.own 1)), ((15, 0), (.val (.int .i64)))]⟩
       (.seq .leaf
       (.seq (.cond none
         .leaf
         .leaf)
       (.seq (.block ⟨[((.sl 3 (.int .i64)), (.ow .sh), (6, 0)), ((.sl 43 (.sl 4 .bool)), (.ow (.ow .sh)), (14, 0))], [((6, 0), (.own 0)), ((1, 0), (.val (.int .i64))), ((14, 0), (.own 1)), ((15, 0), (.val (.int .i64))), ((16, 0), (.val (.int .i64)))]⟩ true
         (.seq .leaf
         (.seq .leaf
         (.cond (some ⟨[((.sl 3 (.int .i64)), (.ow .sh), (6, 0)), ((.sl 43 (.sl 4 .bool)), (.ow (.ow .sh)), (14, 0))], [((6, 0), (.own 0)), ((1, 0), (.val (.int .i64))), ((14, 0), (.own 1)), ((15, 0), (.val (.int .i64))), ((16, 0), (.val (.int .i64)))]⟩)
           .leaf
           .leaf))))
       .leaf))))))
   (.seq .leaf
   .leaf)))))
def d12_K1  : ((((List Int) × Unit) × Unit) → (Option (((List Int) × (Int × Unit)) × Unit))) :=
  (fun (x5 : (((List Int) × Unit) × Unit)) => (Option.some ((x5.1.1, ((0 : Int), ())), ())))
def d12_K2 (x6 : ((((List Int) × ((List (List Bool)) × Unit)) × (Int × (Int × (Int × Unit)))) → (Option (((List Int) × (Int × Unit)) × Unit)))) : ((((List Int) × ((List (List Bool)) × Unit)) × (Int × (Int × (Int × Unit)))) → (Option (((List Int) × (Int × Unit)) × Unit))) :=
  (fun (x9 : (((List Int) × ((List (List Bool)) × Unit)) × (Int × (Int × (Int × Unit))))) => (x6 ((x9.1.1, (x9.1.2.1, ())), ((Go.IntKind.wrap Go.IntKind.i64 (x9.2.2.2.1 + (1 : Int))), (x9.2.1, (x9.2.2.1, ()))))))
def d12_K3 (x9 : ((((List Int) × ((List (List Bool)) × Unit)) × (Int × (Int × (Int × Unit)))) → (Option (((List Int) × (Int × Unit)) × Unit)))) : ((((List Int) × ((List (List Bool)) × Unit)) × (Int × (Int × (Int × Unit)))) → (Option (((List Int) × (Int × Unit)) × Unit))) :=
  (fun (x12 : (((List Int) × ((List (List Bool)) × Unit)) × (Int × (Int × (Int × Unit))))) => (x9 ((x12.1.1, (x12.1.2.1, ())), (x12.2.1, (x12.2.2.1, (x12.2.2.2.1, ()))))))
def d12_L4 (x5 : ((((List Int) × Unit) × Unit) → (Option (((List Int) × (Int × Unit)) × Unit)))) : (((((List Int) × ((List (List Bool)) × Unit)) × (Int × (Int × (Int × Unit)))) → (Option (((List Int) × (Int × Unit)) × Unit))) → ((((List Int) × ((List (List Bool)) × Unit)) × (Int × (Int × (Int × Unit)))) → (Option (((List Int) × (Int × Unit)) × Unit)))) :=
  (fun (x6 : ((((List Int) × ((List (List Bool)) × Unit)) × (Int × (Int × (Int × Unit)))) → (Option (((List Int) × (Int × Unit)) × Unit)))) => (fun (x7 : (((List Int) × ((List (List Bool)) × Unit)) × (Int × (Int × (Int × Unit))))) => (lt (Decidable.decide (x7.2.1 < x7.2.2.2.1)) fun (x8 : Bool) =>
  (if (x8 = Bool.true) then
  (shr (d12_K2 x6) (fun (x9 : ((((List Int) × ((List (List Bool)) × Unit)) × (Int × (Int × (Int × Unit)))) → (Option (((List Int) × (Int × Unit)) × Unit)))) => (if (((Decidable.decide ((0 : Int) ≤ x7.2.1)) && (Decidable.decide (x7.2.1 < (((List.length x7.1.2.1) : Nat) : Int)))) = Bool.true) then
  (if (((Decidable.decide ((Int.toNat x7.2.1) < (List.length x7.1.2.1))) && Bool.true) = Bool.true) then
  (lt (Go.IntKind.wrap Go.IntKind.i64 (x7.2.2.1 - (1 : Int))) fun (x10 : Int) =>
  (if ((((Decidable.decide ((Int.toNat x7.2.1) < (List.length x7.1.2.1))) && Bool.true) && ((Decidable.decide ((0 : Int) ≤ x10)) && (Decidable.decide (x10 < (((List.length (List.getD x7.1.2.1 (Int.toNat x7.2.1) ([] : List Bool))) : Nat) : Int))))) = Bool.true) then
  (if (((Decidable.decide ((Int.toNat x7.2.1) < (List.length x7.1.2.1))) && ((Decidable.decide ((Int.toNat x10) < (List.length (List.getD x7.1.2.1 (Int.toNat x7.2.1) ([] : List Bool))))) && Bool.true)) = Bool.true) then
  (lt (List.getD (List.getD x7.1.2.1 (Int.toNat x7.2.1) ([] : List Bool)) (Int.toNat x10) Bool.false) fun (x11 : Bool) =>
  (shr (d12_K3 x9) (fun (x12 : ((((List Int) × ((List (List Bool)) × Unit)) × (Int × (Int × (Int × Unit)))) → (Option (((List Int) × (Int × Unit)) × Unit)))) => (if (x11 = Bool.true) then
  (lt (Go.IntKind.wrap Go.IntKind.i64 (x7.2.1 + (1 : Int))) fun (x13 : Int) =>
  (lt (x13 :: ([] : List Int)) fun (x14 : (List Int)) =>
  (if ((Go.Lift.appFits (List.length x7.1.1) (List.length x14) (8 : Nat)) = Bool.true) then
  (x12 (((x7.1.1 ++ x14), (x7.1.2.1, ())), (x7.2.2.1, (x7.2.2.2.1, (x7.2.1, ())))))
  else (Option.none))))
  else (x12 ((x7.1.1, (x7.1.2.1, ())), (x7.2.2.1, (x7.2.2.2.1, (x7.2.1, ())))))))))
  else (Option.none))
  else (Option.none)))
  else (Option.none))
  else (Option.none))))
  else (x5 ((x7.1.1, ()), ()))))))
def d12 : (Nat → ((IM × (Int × Unit)) → (Option (((List Int) × (Int × Unit)) × Unit)))) :=
  (fun (x0 : Nat) => (fun (x1 : (IM × (Int × Unit))) => (Option.bind (d29 x0 (x1.1, (x1.2.1, ()))) fun (x2 : ((Bool × Unit) × Unit)) =>
  (lt (Bool.not x2.1.1) fun (x3 : Bool) =>
  (if (x3 = Bool.true) then
  (Option.some ((([] : List Int), ((220 : Int), ())), ()))
  else (Option.bind (d9 x0 (x1.1, ())) fun (x4 : (((List (List Bool)) × Unit) × Unit)) =>
  (shr d12_K1 (fun (x5 : ((((List Int) × Unit) × Unit) → (Option (((List Int) × (Int × Unit)) × Unit)))) => (loopN (d12_L4 x5) x0 ((([] : List Int), (x4.1.1, ())), ((0 : Int), (x1.2.1, ((((List.length x4.1.1) : Nat) : Int), ())))))))))))))
theorem k12 : c_fn Tryd.prog [(29, ⟨s29, d29⟩), (9, ⟨s9, d9⟩)] Tryd.f12 s12 h12 = some d12 := by kernel_rfl
/-- bulkhead/bulkheadlaw24.chain -/
def s42 : Sig := ⟨[], [((.pair (.sl 55 (.pair (.pair (.int .i64) (.pair (.int .i64) (.pair (.int .i64) (.pair (.int .i64) .unit)))) (.pair (.int .i64) (.pair (.int .i64) (.pair (.sl 2 (.int .i64)) (.pair (.sl 57 (.pair (.int .u8) (.pair (.int .u8) (.pair (.int .u8) (.pair (.int .u8) (.pair (.int .i32) .unit)))))) (.pair (.sl 94 (.pair (.int .i64) (.pair (.int .i64) (.pair (.int .i64) (.pair (.int .i64) (.pair (.int .i64) (.pair .bool .unit))))))) (.pair (.int .i64) (.pair (.arr 8 (.int .i64)) (.pair (.sl 96 (.pair (.int .i64) (.pair (.int .i64) .unit))) (.pair (.sl 4 .bool) (.pair (.sl 98 (.pair (.int .i64) (.pair (.int .i64) .unit))) .unit)))))))))))) (.pair (.sl 65 (.pair (.int .i64) (.pair (.int .i64) (.pair .bool (.pair (.int .i64) (.pair (.int .i64) (.pair (.int .i64) .unit))))))) (.pair (.sl 62 (.pair (.int .i64) (.pair (.int .i64) (.pair (.sl 3 (.int .i64)) (.pair (.int .i64) (.pair (.int .i64) .unit)))))) .unit))), (.own (.pr (.ow (.pr .sh (.pr .sh (.pr .sh (.pr (.ow .sh) (.pr (.ow .sh) (.pr (.ow .sh) (.pr .sh (.pr .sh (.pr (.ow .sh) (.pr (.ow .sh) (.pr (.ow .sh) .sh)))))))))))) (.pr (.ow .sh) (.pr (.ow (.pr .sh (.pr .sh (.pr (.ow .sh) (.pr .sh (.pr .sh .sh)))))) .sh)))))]⟩
 def h42 : Hint := (.seq .leaf
   (.seq .leaf
   (.seq .leaf
   (.seq .leaf
   .leaf))))
def d42 : (Nat → (Unit → (Option ((IM × Unit) × Unit)))) :=
  (fun (x0 : Nat) => (fun (x1 : Unit) => (lt (((1 : Int), ((1 : Int), (Bool.true, ((1 : Int), ((1 : Int), ((0 : Int), ())))))) :: (((2 : Int), ((1 : Int), (Bool.false, ((1 : Int), ((1 : Int), ((0 : Int), ())))))) :: (((2 : Int), ((1 : Int), (Bool.true, ((1 : Int), ((1 : Int), ((0 : Int), ())))))) :: (((3 : Int), ((1 : Int), (Bool.false, ((1 : Int), ((1 : Int), ((0 : Int), ())))))) :: ([] : List PO))))) fun (x2 : (List PO)) =>
  (lt ((2 : Int) :: ([] : List Int)) fun (x3 : (List Int)) =>
  (lt ((4 : Int) :: ([] : List Int)) fun (x4 : (List Int)) =>
  (lt (((1 : Int), ((1 : Int), (x3, ((0 : Int), ((5 : Int), ()))))) :: (((1 : Int), ((3 : Int), (x4, ((0 : Int), ((5 : Int), ()))))) :: ([] : List CH))) fun (x5 : (List CH)) =>
  (if (((((Decidable.decide ((0 : Int) ≤ (3 : Int))) && (Decidable.decide ((3 : Int) ≤ (3 : Int)))) && (Decidable.decide (((((264 : Nat) : Nat) : Int) * (3 : Int)) ≤ (281474976710656 : Int)))) && (Decidable.decide ((3 : Int) ≤ (9223372036854775807 : Int)))) = Bool.true) then
  (Option.some ((((List.replicate (Int.toNat (3 : Int)) (((0 : Int), ((0 : Int), ((0 : Int), ((0 : Int), ())))), ((0 : Int), ((0 : Int), (([] : List Int), (([] : List (Int × (Int × (Int × (Int × (Int × Unit)))))), (([] : List (Int × (Int × (Int × (Int × (Int × (Bool × Unit))))))), ((0 : Int), ((List.replicate (8 : Nat) (0 : Int)), (([] : List (Int × (Int × Unit))), (([] : List Bool), (([] : List (Int × (Int × Unit))), ())))))))))))), (x2, (x5, ()))), ()), ()))
  else (Option.none))))))))
theorem k42 : c_fn Tryd.prog [] Tryd.f42 s42 h42 = some d42 := by kernel_rfl
/-- bulkhead/bulkheadlaw24.same -/
def s15 : Sig := ⟨[((.sl 3 (.int .i64)), .val), ((.sl 3 (.int .i64)), .val)], [(.bool, .val)]⟩
 def h15 : Hint := (.seq .leaf
   (.seq (.seq .leaf
   (.cond none
     (.seq .leaf
     .leaf)
     .leaf))
   (.seq (.seq .leaf
   (.block ⟨[], []⟩ true
     (.loop ⟨[], [((5, 0), (.val (.int .i64))), ((1, 0), (.val (.sl 3 (.int .i64)))), ((0, 0), (.val (.sl 3 (.int .i64))))]⟩
       (.seq (.seq .leaf
       (.cond none
         .leaf
         .leaf))
       (.seq (.block ⟨[], [((1, 0), (.val (.sl 3 (.int .i64)))), ((0, 0), (.val (.sl 3 (.int .i64)))), ((5, 0), (.val (.int .i64)))]⟩ true
         (.seq .leaf
         (.cond none
           (.seq .leaf
           .leaf)
           .leaf)))
       .leaf)))))
   (.seq .leaf
   .leaf))))
def d15_K1 (x6 : ((Unit × (Int × ((List Int) × ((List Int) × Unit)))) → (Option ((Bool × Unit) × Unit)))) : ((Unit × ((List Int) × ((List Int) × (Int × Unit)))) → (Option ((Bool × Unit) × Unit))) :=
  (fun (x10 : (Unit × ((List Int) × ((List Int) × (Int × Unit))))) => (x6 ((), ((Go.IntKind.wrap Go.IntKind.i64 (x10.2.2.2.1 + (1 : Int))), (x10.2.1, (x10.2.2.1, ()))))))
def d15_L2 (x5 : ((Unit × Unit) → (Option ((Bool × Unit) × Unit)))) : (((Unit × (Int × ((List Int) × ((List Int) × Unit)))) → (Option ((Bool × Unit) × Unit))) → ((Unit × (Int × ((List Int) × ((List Int) × Unit)))) → (Option ((Bool × Unit) × Unit)))) :=
  (fun (x6 : ((Unit × (Int × ((List Int) × ((List Int) × Unit)))) → (Option ((Bool × Unit) × Unit)))) => (fun (x7 : (Unit × (Int × ((List Int) × ((List Int) × Unit))))) => (lt (((List.length x7.2.2.2.1) : Nat) : Int) fun (x8 : Int) =>
  (lt (Decidable.decide (x7.2.1 < x8)) fun (x9 : Bool) =>
  (if (x9 = Bool.true) then
  (shr (d15_K1 x6) (fun (x10 : ((Unit × ((List Int) × ((List Int) × (Int × Unit)))) → (Option ((Bool × Unit) × Unit)))) => (if (((Decidable.decide ((0 : Int) ≤ x7.2.1)) && (Decidable.decide (x7.2.1 < (((List.length x7.2.2.2.1) : Nat) : Int)))) = Bool.true) then
  (lt (List.getD x7.2.2.2.1 (Int.toNat x7.2.1) (0 : Int)) fun (x11 : Int) =>
  (if (((Decidable.decide ((0 : Int) ≤ x7.2.1)) && (Decidable.decide (x7.2.1 < (((List.length x7.2.2.1) : Nat) : Int)))) = Bool.true) then
  (lt (List.getD x7.2.2.1 (Int.toNat x7.2.1) (0 : Int)) fun (x12 : Int) =>
  (lt (x11 != x12) fun (x13 : Bool) =>
  (if (x13 = Bool.true) then
  (Option.some ((Bool.false, ()), ()))
  else (x10 ((), (x7.2.2.1, (x7.2.2.2.1, (x7.2.1, ()))))))))
  else (Option.none)))
  else (Option.none))))
  else (x5 ((), ())))))))
def d15 : (Nat → (((List Int) × ((List Int) × Unit)) → (Option ((Bool × Unit) × Unit)))) :=
  (fun (x0 : Nat) => (fun (x1 : ((List Int) × ((List Int) × Unit))) => (lt (((List.length x1.1) : Nat) : Int) fun (x2 : Int) =>
  (lt (((List.length x1.2.1) : Nat) : Int) fun (x3 : Int) =>
  (lt (x2 != x3) fun (x4 : Bool) =>
  (if (x4 = Bool.true) then
  (Option.some ((Bool.false, ()), ()))
  else (shr (fun (x5 : (Unit × Unit)) => (Option.some ((Bool.true, ()), ()))) (fun (x5 : ((Unit × Unit) → (Option ((Bool × Unit) × Unit)))) => (loopN (d15_L2 x5) x0 ((), ((0 : Int), (x1.2.1, (x1.1, ())))))))))))))
theorem k15 : c_fn Tryd.prog [] Tryd.f15 s15 h15 = some d15 := by kernel_rfl
/-- strconv.Itoa -/
def s34 : Sig := ⟨[((.int .i64), .val)], [(.str, .val)]⟩
def d34 (_ : Nat) (x : Int × Unit) : Option ((ByteArray × Unit) × Unit) := if inI x.1 then some ((⟨(Lib.itoa x.1).toArray⟩, ()), ()) else none
/-- (*strings.Builder).WriteString -/
def s33 : Sig := ⟨[((.bld 75 5), (.mut (.ow .sh))), (.str, .val)], [((.int .i64), .val), (.unk, .val)]⟩
def d33 (_ : Nat) (x : ByteArray × ByteArray × Unit) : Option ((Int × Unit × Unit) × ByteArray × Unit) := if x.1.size + x.2.1.size ≤ 140737488355328 then some (((x.2.1.size : Int), (), ()), (x.1 ++ x.2.1, ())) else none
/-- (*strings.Builder).WriteByte -/
def s35 : Sig := ⟨[((.bld 75 5), (.mut (.ow .sh))), ((.int .u8), .val)], [(.unk, .val)]⟩
def d35 (_ : Nat) (x : ByteArray × Int × Unit) : Option ((Unit × Unit) × ByteArray × Unit) := if x.1.size + 1 ≤ 140737488355328 ∧ 0 ≤ x.2.1 ∧ x.2.1 < 256 then some (((), ()), (x.1.push (UInt8.ofNat x.2.1.toNat), ())) else none
/-- (*strings.Builder).String -/
def s36 : Sig := ⟨[((.bld 75 5), (.tak (.ow .sh)))], [(.str, .val)]⟩
def d36 (_ : Nat) (x : ByteArray × Unit) : Option ((ByteArray × Unit) × Unit) := some ((x.1, ()), ())
/-- bulkhead/flow.Text -/
def s16 : Sig := ⟨[((.pair (.sl 55 (.pair (.pair (.int .i64) (.pair (.int .i64) (.pair (.int .i64) (.pair (.int .i64) .unit)))) (.pair (.int .i64) (.pair (.int .i64) (.pair (.sl 2 (.int .i64)) (.pair (.sl 57 (.pair (.int .u8) (.pair (.int .u8) (.pair (.int .u8) (.pair (.int .u8) (.pair (.int .i32) .unit)))))) (.pair (.sl 94 (.pair (.int .i64) (.pair (.int .i64) (.pair (.int .i64) (.pair (.int .i64) (.pair (.int .i64) (.pair .bool .unit))))))) (.pair (.int .i64) (.pair (.arr 8 (.int .i64)) (.pair (.sl 96 (.pair (.int .i64) (.pair (.int .i64) .unit))) (.pair (.sl 4 .bool) (.pair (.sl 98 (.pair (.int .i64) (.pair (.int .i64) .unit))) .unit)))))))))))) (.pair (.sl 65 (.pair (.int .i64) (.pair (.int .i64) (.pair .bool (.pair (.int .i64) (.pair (.int .i64) (.pair (.int .i64) .unit))))))) (.pair (.sl 62 (.pair (.int .i64) (.pair (.int .i64) (.pair (.sl 3 (.int .i64)) (.pair (.int .i64) (.pair (.int .i64) .unit)))))) .unit))), .val)], [(.str, .val)]⟩
 def h16 : Hint := (.seq .leaf
   (.seq .leaf
   (.seq .leaf
   (.seq .leaf
   (.seq (.seq .leaf
   (.block ⟨[((.bld 75 5), (.ow .sh), (6, 0))], [((6, 0), (.own 0))]⟩ true
     (.loop ⟨[((.bld 75 5), (.ow .sh), (6, 0)), ((.ptr 71 (.arr 4 (.int .u8))), (.ow .sh), (3, 0)), ((.sl 43 (.sl 4 .bool)), (.ow (.ow .sh)), (5, 0)), ((.sl 43 (.sl 4 .bool)), (.ow (.ow .sh)), (4, 0))], [((6, 0), (.own 0)), ((3, 0), (.own 1)), ((5, 0), (.own 2)), ((4, 0), (.own 3)), ((17, 0), (.val (.int .i64))), ((16, 0), (.val (.int .i64)))]⟩
       (.seq .leaf
       (.seq (.cond none
         .leaf
         .leaf)
       (.seq (.block ⟨[((.bld 75 5), (.ow .sh), (6, 0)), ((.ptr 71 (.arr 4 (.int .u8))), (.ow .sh), (3, 0)), ((.sl 43 (.sl 4 .bool)), (.ow (.ow .sh)), (5, 0)), ((.sl 43 (.sl 4 .bool)), (.ow (.ow .sh)), (4, 0))], [((6, 0), (.own 0)), ((3, 0), (.own 1)), ((5, 0), (.own 2)), ((4, 0), (.own 3)), ((16, 0), (.val (.int .i64))), ((17, 0), (.val (.int .i64)))]⟩ true
         (.seq .leaf
         (.seq .leaf
         (.seq (.seq .leaf
         (.block ⟨[((.bld 75 5), (.ow .sh), (6, 0)), ((.ptr 71 (.arr 4 (.int .u8))), (.ow .sh), (3, 0)), ((.sl 43 (.sl 4 .bool)), (.ow (.ow .sh)), (5, 0)), ((.sl 43 (.sl 4 .bool)), (.ow (.ow .sh)), (4, 0))], [((6, 0), (.own 0)), ((3, 0), (.own 1)), ((5, 0), (.own 2)), ((4, 0), (.own 3)), ((16, 0), (.val (.int .i64))), ((17, 0), (.val (.int .i64)))]⟩ true
           (.loop ⟨[((.bld 75 5), (.ow .sh), (6, 0)), ((.ptr 71 (.arr 4 (.int .u8))), (.ow .sh), (3, 0)), ((.sl 43 (.sl 4 .bool)), (.ow (.ow .sh)), (5, 0)), ((.sl 43 (.sl 4 .bool)), (.ow (.ow .sh)), (4, 0))], [((27, 0), (.val (.int .i64))), ((6, 0), (.own 0)), ((3, 0), (.own 1)), ((7, 0), (.val (.int .i64))), ((5, 0), (.own 2)), ((4, 0), (.own 3)), ((16, 0), (.val (.int .i64))), ((17, 0), (.val (.int .i64))), ((26, 0), (.val (.int .i64)))]⟩
             (.seq .leaf
             (.seq (.cond none
               .leaf
               .leaf)
             (.seq (.block ⟨[((.bld 75 5), (.ow .sh), (6, 0)), ((.ptr 71 (.arr 4 (.int .u8))), (.ow .sh), (3, 0)), ((.sl 43 (.sl 4 .bool)), (.ow (.ow .sh)), (5, 0)), ((.sl 43 (.sl 4 .bool)), (.ow (.ow .sh)), (4, 0))], [((6, 0), (.own 0)), ((3, 0), (.own 1)), ((7, 0), (.val (.int .i64))), ((5, 0), (.own 2)), ((4, 0), (.own 3)), ((16, 0), (.val (.int .i64))), ((17, 0), (.val (.int .i64))), ((26, 0), (.val (.int .i64))), ((27, 0), (.val (.int .i64)))]⟩ true
               (.seq .leaf
               (.seq .leaf
               (.seq (.block ⟨[((.bld 75 5), (.ow .sh), (6, 0)), ((.ptr 71 (.arr 4 (.int .u8))), (.ow .sh), (3, 0)), ((.sl 43 (.sl 4 .bool)), (.ow (.ow .sh)), (5, 0)), ((.sl 43 (.sl 4 .bool)), (.ow (.ow .sh)), (4, 0))], [((6, 0), (.own 0)), ((3, 0), (.own 1)), ((7, 0), (.val (.int .i64))), ((5, 0), (.own 2)), ((4, 0), (.own 3)), ((16, 0), (.val (.int .i64))), ((17, 0), (.val (.int .i64))), ((26, 0), (.val (.int .i64))), ((27, 0), (.val (.int .i64))), ((9, 0), (.val (.int .i64)))]⟩ true
                 (.seq .leaf
                 (.cond (some ⟨[((.bld 75 5), (.ow .sh), (6, 0)), ((.ptr 71 (.arr 4 (.int .u8))), (.ow .sh), (3, 0)), ((.sl 43 (.sl 4 .bool)), (.ow (.ow .sh)), (5, 0)), ((.sl 43 (.sl 4 .bool)), (.ow (.ow .sh)), (4, 0))], [((6, 0), (.own 0)), ((3, 0), (.own 1)), ((7, 0), (.val (.int .i64))), ((5, 0), (.own 2)), ((4, 0), (.own 3)), ((16, 0), (.val (.int .i64))), ((17, 0), (.val (.int .i64))), ((26, 0), (.val (.int .i64))), ((27, 0), (.val (.int .i64))), ((9, 0), (.val (.int .i64)))]⟩)
                   .leaf
                   (.seq .leaf
                   (.cond (some ⟨[((.bld 75 5), (.ow .sh), (6, 0)), ((.ptr 71 (.arr 4 (.int .u8))), (.ow .sh), (3, 0)), ((.sl 43 (.sl 4 .bool)), (.ow (.ow .sh)), (5, 0)), ((.sl 43 (.sl 4 .bool)), (.ow (.ow .sh)), (4, 0))], [((6, 0), (.own 0)), ((3, 0), (.own 1)), ((7, 0), (.val (.int .i64))), ((5, 0), (.own 2)), ((4, 0), (.own 3)), ((16, 0), (.val (.int .i64))), ((17, 0), (.val (.int .i64))), ((26, 0), (.val (.int .i64))), ((27, 0), (.val (.int .i64))), ((9, 0), (.val (.int .i64)))]⟩)
                     .leaf
                     (.seq .leaf
                     (.cond (some ⟨[((.bld 75 5), (.ow .sh), (6, 0)), ((.ptr 71 (.arr 4 (.int .u8))), (.ow .sh), (3, 0)), ((.sl 43 (.sl 4 .bool)), (.ow (.ow .sh)), (5, 0)), ((.sl 43 (.sl 4 .bool)), (.ow (.ow .sh)), (4, 0))], [((6, 0), (.own 0)), ((3, 0), (.own 1)), ((7, 0), (.val (.int .i64))), ((5, 0), (.own 2)), ((4, 0), (.own 3)), ((16, 0), (.val (.int .i64))), ((17, 0), (.val (.int .i64))), ((26, 0), (.val (.int .i64))), ((27, 0), (.val (.int .i64))), ((9, 0), (.val (.int .i64)))]⟩)
                       .leaf
                       .leaf)))))))
               .leaf))))
             .leaf))))))
         .leaf))))
       .leaf))))))
   (.seq .leaf
   .leaf))))))
def d16_K1 (x0 : Nat) : (((ByteArray × Unit) × Unit) → (Option ((ByteArray × Unit) × Unit))) :=
  (fun (x4 : ((ByteArray × Unit) × Unit)) => (Option.bind (d36 x0 (x4.1.1, ())) fun (x5 : ((ByteArray × Unit) × Unit)) =>
  (Option.some ((x5.1.1, ()), ()))))
def d16_K2 (x5 : (((ByteArray × ((List Int) × ((List (List Bool)) × ((List (List Bool)) × Unit)))) × (Int × (Int × Unit))) → (Option ((ByteArray × Unit) × Unit)))) : (((ByteArray × ((List Int) × ((List (List Bool)) × ((List (List Bool)) × Unit)))) × (Int × (Int × Unit))) → (Option ((ByteArray × Unit) × Unit))) :=
  (fun (x8 : ((ByteArray × ((List Int) × ((List (List Bool)) × ((List (List Bool)) × Unit)))) × (Int × (Int × Unit)))) => (x5 ((x8.1.1, (x8.1.2.1, (x8.1.2.2.1, (x8.1.2.2.2.1, ())))), ((Go.IntKind.wrap Go.IntKind.i64 (x8.2.2.1 + (1 : Int))), (x8.2.1, ())))))
def d16_K3 (x0 : Nat) (x8 : (((ByteArray × ((List Int) × ((List (List Bool)) × ((List (List Bool)) × Unit)))) × (Int × (Int × Unit))) → (Option ((ByteArray × Unit) × Unit)))) : (((ByteArray × ((List Int) × ((List (List Bool)) × ((List (List Bool)) × Unit)))) × (Int × (Int × Unit))) → (Option ((ByteArray × Unit) × Unit))) :=
  (fun (x12 : ((ByteArray × ((List Int) × ((List (List Bool)) × ((List (List Bool)) × Unit)))) × (Int × (Int × Unit)))) => (Option.bind (d35 x0 (x12.1.1, ((10 : Int), ()))) fun (x13 : ((Unit × Unit) × (ByteArray × Unit))) =>
  (x8 ((x13.2.1, (x12.1.2.1, (x12.1.2.2.1, (x12.1.2.2.2.1, ())))), (x12.2.1, (x12.2.2.1, ()))))))
def d16_K4 (x13 : (((ByteArray × ((List Int) × ((List (List Bool)) × ((List (List Bool)) × Unit)))) × (Int × (Int × (Int × (Int × (Int × Unit)))))) → (Option ((ByteArray × Unit) × Unit)))) : (((ByteArray × ((List Int) × ((List (List Bool)) × ((List (List Bool)) × Unit)))) × (Int × (Int × (Int × (Int × (Int × Unit)))))) → (Option ((ByteArray × Unit) × Unit))) :=
  (fun (x16 : ((ByteArray × ((List Int) × ((List (List Bool)) × ((List (List Bool)) × Unit)))) × (Int × (Int × (Int × (Int × (Int × Unit))))))) => (x13 ((x16.1.1, (x16.1.2.1, (x16.1.2.2.1, (x16.1.2.2.2.1, ())))), ((Go.IntKind.wrap Go.IntKind.i64 (x16.2.2.2.2.2.1 + (1 : Int))), (x16.2.1, (x16.2.2.1, (x16.2.2.2.1, (x16.2.2.2.2.1, ()))))))))
def d16_K5 (x0 : Nat) (x16 : (((ByteArray × ((List Int) × ((List (List Bool)) × ((List (List Bool)) × Unit)))) × (Int × (Int × (Int × (Int × (Int × Unit)))))) → (Option ((ByteArray × Unit) × Unit)))) : (((ByteArray × ((List Int) × ((List (List Bool)) × ((List (List Bool)) × Unit)))) × (Int × (Int × (Int × (Int × (Int × (Int × Unit))))))) → (Option ((ByteArray × Unit) × Unit))) :=
  (fun (x17 : ((ByteArray × ((List Int) × ((List (List Bool)) × ((List (List Bool)) × Unit)))) × (Int × (Int × (Int × (Int × (Int × (Int × Unit)))))))) => (if (((Decidable.decide ((0 : Int) ≤ x17.2.2.2.2.2.2.1)) && (Decidable.decide (x17.2.2.2.2.2.2.1 < (((4 : Nat) : Nat) : Int)))) = Bool.true) then
  (if (((Decidable.decide ((Int.toNat x17.2.2.2.2.2.2.1) < (List.length x17.1.2.1))) && Bool.true) = Bool.true) then
  (Option.bind (d35 x0 (x17.1.1, ((List.getD x17.1.2.1 (Int.toNat x17.2.2.2.2.2.2.1) (0 : Int)), ()))) fun (x18 : ((Unit × Unit) × (ByteArray × Unit))) =>
  (x16 ((x18.2.1, (x17.1.2.1, (x17.1.2.2.1, (x17.1.2.2.2.1, ())))), (x17.2.1, (x17.2.2.1, (x17.2.2.2.1, (x17.2.2.2.2.1, (x17.2.2.2.2.2.1, ()))))))))
  else (Option.none))
  else (Option.none)))
def d16_K6 (x17 : (((ByteArray × ((List Int) × ((List (List Bool)) × ((List (List Bool)) × Unit)))) × (Int × (Int × (Int × (Int × (Int × (Int × Unit))))))) → (Option ((ByteArray × Unit) × Unit)))) : (((ByteArray × ((List Int) × ((List (List Bool)) × ((List (List Bool)) × Unit)))) × (Int × (Int × (Int × (Int × (Int × (Int × Unit))))))) → (Option ((ByteArray × Unit) × Unit))) :=
  (fun (x19 : ((ByteArray × ((List Int) × ((List (List Bool)) × ((List (List Bool)) × Unit)))) × (Int × (Int × (Int × (Int × (Int × (Int × Unit)))))))) => (x17 ((x19.1.1, (x19.1.2.1, (x19.1.2.2.1, (x19.1.2.2.2.1, ())))), (x19.2.1, (x19.2.2.1, (x19.2.2.2.1, (x19.2.2.2.2.1, (x19.2.2.2.2.2.1, (x19.2.2.2.2.2.2.1, ())))))))))
def d16_K7 (x19 : (((ByteArray × ((List Int) × ((List (List Bool)) × ((List (List Bool)) × Unit)))) × (Int × (Int × (Int × (Int × (Int × (Int × Unit))))))) → (Option ((ByteArray × Unit) × Unit)))) : (((ByteArray × ((List Int) × ((List (List Bool)) × ((List (List Bool)) × Unit)))) × (Int × (Int × (Int × (Int × (Int × (Int × Unit))))))) → (Option ((ByteArray × Unit) × Unit))) :=
  (fun (x21 : ((ByteArray × ((List Int) × ((List (List Bool)) × ((List (List Bool)) × Unit)))) × (Int × (Int × (Int × (Int × (Int × (Int × Unit)))))))) => (x19 ((x21.1.1, (x21.1.2.1, (x21.1.2.2.1, (x21.1.2.2.2.1, ())))), (x21.2.1, (x21.2.2.1, (x21.2.2.2.1, (x21.2.2.2.2.1, (x21.2.2.2.2.2.1, (x21.2.2.2.2.2.2.1, ())))))))))
def d16_K8 (x21 : (((ByteArray × ((List Int) × ((List (List Bool)) × ((List (List Bool)) × Unit)))) × (Int × (Int × (Int × (Int × (Int × (Int × Unit))))))) → (Option ((ByteArray × Unit) × Unit)))) : (((ByteArray × ((List Int) × ((List (List Bool)) × ((List (List Bool)) × Unit)))) × (Int × (Int × (Int × (Int × (Int × (Int × Unit))))))) → (Option ((ByteArray × Unit) × Unit))) :=
  (fun (x23 : ((ByteArray × ((List Int) × ((List (List Bool)) × ((List (List Bool)) × Unit)))) × (Int × (Int × (Int × (Int × (Int × (Int × Unit)))))))) => (x21 ((x23.1.1, (x23.1.2.1, (x23.1.2.2.1, (x23.1.2.2.2.1, ())))), (x23.2.1, (x23.2.2.1, (x23.2.2.2.1, (x23.2.2.2.2.1, (x23.2.2.2.2.2.1, (x23.2.2.2.2.2.2.1, ())))))))))
def d16_L9 (x0 : Nat) (x12 : (((ByteArray × ((List Int) × ((List (List Bool)) × ((List (List Bool)) × Unit)))) × (Int × (Int × Unit))) → (Option ((ByteArray × Unit) × Unit)))) : ((((ByteArray × ((List Int) × ((List (List Bool)) × ((List (List Bool)) × Unit)))) × (Int × (Int × (Int × (Int × (Int × Unit)))))) → (Option ((ByteArray × Unit) × Unit))) → (((ByteArray × ((List Int) × ((List (List Bool)) × ((List (List Bool)) × Unit)))) × (Int × (Int × (Int × (Int × (Int × Unit)))))) → (Option ((ByteArray × Unit) × Unit)))) :=
  (fun (x13 : (((ByteArray × ((List Int) × ((List (List Bool)) × ((List (List Bool)) × Unit)))) × (Int × (Int × (Int × (Int × (Int × Unit)))))) → (Option ((ByteArray × Unit) × Unit)))) => (fun (x14 : ((ByteArray × ((List Int) × ((List (List Bool)) × ((List (List Bool)) × Unit)))) × (Int × (Int × (Int × (Int × (Int × Unit))))))) => (lt (Decidable.decide (x14.2.1 < x14.2.2.2.2.2.1)) fun (x15 : Bool) =>
  (if (x15 = Bool.true) then
  (shr (d16_K4 x13) (fun (x16 : (((ByteArray × ((List Int) × ((List (List Bool)) × ((List (List Bool)) × Unit)))) × (Int × (Int × (Int × (Int × (Int × Unit)))))) → (Option ((ByteArray × Unit) × Unit)))) => (shr (d16_K5 x0 x16) (fun (x17 : (((ByteArray × ((List Int) × ((List (List Bool)) × ((List (List Bool)) × Unit)))) × (Int × (Int × (Int × (Int × (Int × (Int × Unit))))))) → (Option ((ByteArray × Unit) × Unit)))) => (if (((Decidable.decide ((0 : Int) ≤ x14.2.2.1)) && (Decidable.decide (x14.2.2.1 < (((List.length x14.1.2.2.2.1) : Nat) : Int)))) = Bool.true) then
  (if (((Decidable.decide ((Int.toNat x14.2.2.1) < (List.length x14.1.2.2.2.1))) && Bool.true) = Bool.true) then
  (if ((((Decidable.decide ((Int.toNat x14.2.2.1) < (List.length x14.1.2.2.2.1))) && Bool.true) && ((Decidable.decide ((0 : Int) ≤ x14.2.1)) && (Decidable.decide (x14.2.1 < (((List.length (List.getD x14.1.2.2.2.1 (Int.toNat x14.2.2.1) ([] : List Bool))) : Nat) : Int))))) = Bool.true) then
  (if (((Decidable.decide ((Int.toNat x14.2.2.1) < (List.length x14.1.2.2.2.1))) && ((Decidable.decide ((Int.toNat x14.2.1) < (List.length (List.getD x14.1.2.2.2.1 (Int.toNat x14.2.2.1) ([] : List Bool))))) && Bool.true)) = Bool.true) then
  (lt (List.getD (List.getD x14.1.2.2.2.1 (Int.toNat x14.2.2.1) ([] : List Bool)) (Int.toNat x14.2.1) Bool.false) fun (x18 : Bool) =>
  (shr (d16_K6 x17) (fun (x19 : (((ByteArray × ((List Int) × ((List (List Bool)) × ((List (List Bool)) × Unit)))) × (Int × (Int × (Int × (Int × (Int × (Int × Unit))))))) → (Option ((ByteArray × Unit) × Unit)))) => (if (x18 = Bool.true) then
  (x19 ((x14.1.1, (x14.1.2.1, (x14.1.2.2.1, (x14.1.2.2.2.1, ())))), (x14.2.2.1, (x14.2.2.2.1, (x14.2.2.2.2.1, (x14.2.2.2.2.2.1, (x14.2.1, ((3 : Int), ()))))))))
  else (lt (x14.2.2.1 == x14.2.1) fun (x20 : Bool) =>
  (shr (d16_K7 x19) (fun (x21 : (((ByteArray × ((List Int) × ((List (List Bool)) × ((List (List Bool)) × Unit)))) × (Int × (Int × (Int × (Int × (Int × (Int × Unit))))))) → (Option ((ByteArray × Unit) × Unit)))) => (if (x20 = Bool.true) then
  (x21 ((x14.1.1, (x14.1.2.1, (x14.1.2.2.1, (x14.1.2.2.2.1, ())))), (x14.2.2.1, (x14.2.2.2.1, (x14.2.2.2.2.1, (x14.2.2.2.2.2.1, (x14.2.1, ((2 : Int), ()))))))))
  else (if (((Decidable.decide ((0 : Int) ≤ x14.2.2.1)) && (Decidable.decide (x14.2.2.1 < (((List.length x14.1.2.2.1) : Nat) : Int)))) = Bool.true) then
  (if (((Decidable.decide ((Int.toNat x14.2.2.1) < (List.length x14.1.2.2.1))) && Bool.true) = Bool.true) then
  (if ((((Decidable.decide ((Int.toNat x14.2.2.1) < (List.length x14.1.2.2.1))) && Bool.true) && ((Decidable.decide ((0 : Int) ≤ x14.2.1)) && (Decidable.decide (x14.2.1 < (((List.length (List.getD x14.1.2.2.1 (Int.toNat x14.2.2.1) ([] : List Bool))) : Nat) : Int))))) = Bool.true) then
  (if (((Decidable.decide ((Int.toNat x14.2.2.1) < (List.length x14.1.2.2.1))) && ((Decidable.decide ((Int.toNat x14.2.1) < (List.length (List.getD x14.1.2.2.1 (Int.toNat x14.2.2.1) ([] : List Bool))))) && Bool.true)) = Bool.true) then
  (lt (List.getD (List.getD x14.1.2.2.1 (Int.toNat x14.2.2.1) ([] : List Bool)) (Int.toNat x14.2.1) Bool.false) fun (x22 : Bool) =>
  (shr (d16_K8 x21) (fun (x23 : (((ByteArray × ((List Int) × ((List (List Bool)) × ((List (List Bool)) × Unit)))) × (Int × (Int × (Int × (Int × (Int × (Int × Unit))))))) → (Option ((ByteArray × Unit) × Unit)))) => (if (x22 = Bool.true) then
  (x23 ((x14.1.1, (x14.1.2.1, (x14.1.2.2.1, (x14.1.2.2.2.1, ())))), (x14.2.2.1, (x14.2.2.2.1, (x14.2.2.2.2.1, (x14.2.2.2.2.2.1, (x14.2.1, ((1 : Int), ()))))))))
  else (x23 ((x14.1.1, (x14.1.2.1, (x14.1.2.2.1, (x14.1.2.2.2.1, ())))), (x14.2.2.1, (x14.2.2.2.1, (x14.2.2.2.2.1, (x14.2.2.2.2.2.1, (x14.2.1, ((0 : Int), ()))))))))))))
  else (Option.none))
  else (Option.none))
  else (Option.none))
  else (Option.none))))))))))
  else (Option.none))
  else (Option.none))
  else (Option.none))
  else (Option.none))))))
  else (x12 ((x14.1.1, (x14.1.2.1, (x14.1.2.2.1, (x14.1.2.2.2.1, ())))), (x14.2.2.2.1, (x14.2.2.2.2.1, ()))))))))
def d16_L10 (x0 : Nat) (x4 : (((ByteArray × Unit) × Unit) → (Option ((ByteArray × Unit) × Unit)))) : ((((ByteArray × ((List Int) × ((List (List Bool)) × ((List (List Bool)) × Unit)))) × (Int × (Int × Unit))) → (Option ((ByteArray × Unit) × Unit))) → (((ByteArray × ((List Int) × ((List (List Bool)) × ((List (List Bool)) × Unit)))) × (Int × (Int × Unit))) → (Option ((ByteArray × Unit) × Unit)))) :=
  (fun (x5 : (((ByteArray × ((List Int) × ((List (List Bool)) × ((List (List Bool)) × Unit)))) × (Int × (Int × Unit))) → (Option ((ByteArray × Unit) × Unit)))) => (fun (x6 : ((ByteArray × ((List Int) × ((List (List Bool)) × ((List (List Bool)) × Unit)))) × (Int × (Int × Unit)))) => (lt (Decidable.decide (x6.2.1 < x6.2.2.1)) fun (x7 : Bool) =>
  (if (x7 = Bool.true) then
  (shr (d16_K2 x5) (fun (x8 : (((ByteArray × ((List Int) × ((List (List Bool)) × ((List (List Bool)) × Unit)))) × (Int × (Int × Unit))) → (Option ((ByteArray × Unit) × Unit)))) => (lt (Go.IntKind.wrap Go.IntKind.i64 (x6.2.1 + (1 : Int))) fun (x9 : Int) =>
  (Option.bind (d34 x0 (x9, ())) fun (x10 : ((ByteArray × Unit) × Unit)) =>
  (if ((Decidable.decide (((ByteArray.size x10.1.1) + (ByteArray.size (ByteArray.mk (List.toArray ((32 : UInt8) :: ([] : List UInt8)))))) ≤ (9223372036854775807 : Nat))) = Bool.true) then
  (Option.bind (d33 x0 (x6.1.1, ((x10.1.1 ++ (ByteArray.mk (List.toArray ((32 : UInt8) :: ([] : List UInt8))))), ()))) fun (x11 : ((Int × (Unit × Unit)) × (ByteArray × Unit))) =>
  (shr (d16_K3 x0 x8) (fun (x12 : (((ByteArray × ((List Int) × ((List (List Bool)) × ((List (List Bool)) × Unit)))) × (Int × (Int × Unit))) → (Option ((ByteArray × Unit) × Unit)))) => (loopN (d16_L9 x0 x12) x0 ((x11.2.1, (x6.1.2.1, (x6.1.2.2.1, (x6.1.2.2.2.1, ())))), ((0 : Int), (x6.2.1, (x6.2.2.1, (x6.2.1, ((((List.length x6.1.2.2.1) : Nat) : Int), ()))))))))))
  else (Option.none))))))
  else (x4 ((x6.1.1, ()), ()))))))
def d16 : (Nat → ((IM × Unit) → (Option ((ByteArray × Unit) × Unit)))) :=
  (fun (x0 : Nat) => (fun (x1 : (IM × Unit)) => (Option.bind (d8 x0 (x1.1, ())) fun (x2 : (((List (List Bool)) × Unit) × Unit)) =>
  (Option.bind (d9 x0 (x1.1, ())) fun (x3 : (((List (List Bool)) × Unit) × Unit)) =>
  (shr (d16_K1 x0) (fun (x4 : (((ByteArray × Unit) × Unit) → (Option ((ByteArray × Unit) × Unit)))) => (loopN (d16_L10 x0 x4) x0 ((ByteArray.empty, (((46 : Int) :: ((114 : Int) :: ((61 : Int) :: ((100 : Int) :: ([] : List Int))))), (x3.1.1, (x2.1.1, ())))), ((0 : Int), ((((List.length x3.1.1) : Nat) : Int), ()))))))))))
theorem k16 : c_fn Tryd.prog [(8, ⟨s8, d8⟩), (9, ⟨s9, d9⟩), (34, ⟨s34, d34⟩), (33, ⟨s33, d33⟩), (35, ⟨s35, d35⟩), (36, ⟨s36, d36⟩)] Tryd.f16 s16 h16 = some d16 := by kernel_rfl
/-- bulkhead/bulkheadlaw24.works -/
def s24 : Sig := ⟨[], [(.bool, .val)]⟩
 def h24 : Hint := (.seq .leaf
   (.seq .leaf
   (.seq .leaf
   (.seq .leaf
   .leaf))))
def d24 : (Nat → (Unit → (Option ((Bool × Unit) × Unit)))) :=
  (fun (x0 : Nat) => (fun (x1 : Unit) => (Option.bind (d42 x0 ()) fun (x2 : ((IM × Unit) × Unit)) =>
  (Option.bind (d12 x0 (x2.1.1, ((3 : Int), ()))) fun (x3 : (((List Int) × (Int × Unit)) × Unit)) =>
  (Option.bind (d42 x0 ()) fun (x4 : ((IM × Unit) × Unit)) =>
  (Option.bind (d12 x0 (x4.1.1, ((1 : Int), ()))) fun (x5 : (((List Int) × (Int × Unit)) × Unit)) =>
  (lt (x3.1.2.1 == (0 : Int)) fun (x6 : Bool) =>
  (lt (x5.1.2.1 == (0 : Int)) fun (x7 : Bool) =>
  (lt (if (x6 = Bool.true) then
  x7
  else Bool.false) fun (x8 : Bool) =>
  (lt ((1 : Int) :: ((2 : Int) :: ((3 : Int) :: ([] : List Int)))) fun (x9 : (List Int)) =>
  (Option.bind (if (((x8 == Bool.true) && Bool.true) = Bool.true) then
  (d15 x0 (x3.1.1, (x9, ())))
  else (Option.some ((Bool.false, ()), ()))) fun (x10 : ((Bool × Unit) × Unit)) =>
  (lt (if (x8 = Bool.true) then
  x10.1.1
  else Bool.false) fun (x11 : Bool) =>
  (lt ((1 : Int) :: ([] : List Int)) fun (x12 : (List Int)) =>
  (Option.bind (if (((x11 == Bool.true) && Bool.true) = Bool.true) then
  (d15 x0 (x5.1.1, (x12, ())))
  else (Option.some ((Bool.false, ()), ()))) fun (x13 : ((Bool × Unit) × Unit)) =>
  (lt (if (x11 = Bool.true) then
  x13.1.1
  else Bool.false) fun (x14 : Bool) =>
  (Option.bind (if (((x14 == Bool.true) && Bool.true) = Bool.true) then
  (d42 x0 ())
  else (Option.some (((([] : List PA), (([] : List PO), (([] : List CH), ()))), ()), ()))) fun (x15 : ((IM × Unit) × Unit)) =>
  (Option.bind (if (((x14 == Bool.true) && Bool.true) = Bool.true) then
  (d16 x0 (x15.1.1, ()))
  else (Option.some ((ByteArray.empty, ()), ()))) fun (x16 : ((ByteArray × Unit) × Unit)) =>
  (lt ((ByteArray.toList x16.1.1) == (ByteArray.toList (ByteArray.mk (List.toArray ((49 : UInt8) :: ((32 : UInt8) :: ((61 : UInt8) :: ((100 : UInt8) :: ((114 : UInt8) :: ((10 : UInt8) :: ((50 : UInt8) :: ((32 : UInt8) :: ((46 : UInt8) :: ((61 : UInt8) :: ((100 : UInt8) :: ((10 : UInt8) :: ((51 : UInt8) :: ((32 : UInt8) :: ((46 : UInt8) :: ((46 : UInt8) :: ((61 : UInt8) :: ((10 : UInt8) :: ([] : List UInt8))))))))))))))))))))))) fun (x17 : Bool) =>
  (Option.some (((if (x14 = Bool.true) then
  x17
  else Bool.false), ()), ()))))))))))))))))))))
theorem k24 : c_fn Tryd.prog [(42, ⟨s42, d42⟩), (12, ⟨s12, d12⟩), (15, ⟨s15, d15⟩), (16, ⟨s16, d16⟩)] Tryd.f24 s24 h24 = some d24 := by kernel_rfl
/-- bulkhead/bulkheadlaw24.FlowPaths -/
def s4 : Sig := ⟨[((.pair (.sl 55 (.pair (.pair (.int .i64) (.pair (.int .i64) (.pair (.int .i64) (.pair (.int .i64) .unit)))) (.pair (.int .i64) (.pair (.int .i64) (.pair (.sl 2 (.int .i64)) (.pair (.sl 57 (.pair (.int .u8) (.pair (.int .u8) (.pair (.int .u8) (.pair (.int .u8) (.pair (.int .i32) .unit)))))) (.pair (.sl 94 (.pair (.int .i64) (.pair (.int .i64) (.pair (.int .i64) (.pair (.int .i64) (.pair (.int .i64) (.pair .bool .unit))))))) (.pair (.int .i64) (.pair (.arr 8 (.int .i64)) (.pair (.sl 96 (.pair (.int .i64) (.pair (.int .i64) .unit))) (.pair (.sl 4 .bool) (.pair (.sl 98 (.pair (.int .i64) (.pair (.int .i64) .unit))) .unit)))))))))))) (.pair (.sl 65 (.pair (.int .i64) (.pair (.int .i64) (.pair .bool (.pair (.int .i64) (.pair (.int .i64) (.pair (.int .i64) .unit))))))) (.pair (.sl 62 (.pair (.int .i64) (.pair (.int .i64) (.pair (.sl 3 (.int .i64)) (.pair (.int .i64) (.pair (.int .i64) .unit)))))) .unit))), .val), ((.int .i64), .val)], [(.bool, .val)]⟩
 def h4 : Hint := (.seq .leaf
   (.seq .leaf
   (.seq .leaf
   (.seq .leaf
   (.seq .leaf
   (.seq (.seq .leaf
   (.cond none
     (.seq .leaf
     .leaf)
     .leaf))
   (.seq (.seq .leaf
   (.block ⟨[((.sl 43 (.sl 4 .bool)), (.ow (.ow .sh)), (7, 0)), ((.sl 43 (.sl 4 .bool)), (.ow (.ow .sh)), (6, 0)), ((.ptr 26 (.pair (.sl 55 (.pair (.pair (.int .i64) (.pair (.int .i64) (.pair (.int .i64) (.pair (.int .i64) .unit)))) (.pair (.int .i64) (.pair (.int .i64) (.pair (.sl 2 (.int .i64)) (.pair (.sl 57 (.pair (.int .u8) (.pair (.int .u8) (.pair (.int .u8) (.pair (.int .u8) (.pair (.int .i32) .unit)))))) (.pair (.sl 94 (.pair (.int .i64) (.pair (.int .i64) (.pair (.int .i64) (.pair (.int .i64) (.pair (.int .i64) (.pair .bool .unit))))))) (.pair (.int .i64) (.pair (.arr 8 (.int .i64)) (.pair (.sl 96 (.pair (.int .i64) (.pair (.int .i64) .unit))) (.pair (.sl 4 .bool) (.pair (.sl 98 (.pair (.int .i64) (.pair (.int .i64) .unit))) .unit)))))))))))) (.pair (.sl 65 (.pair (.int .i64) (.pair (.int .i64) (.pair .bool (.pair (.int .i64) (.pair (.int .i64) (.pair (.int .i64) .unit))))))) (.pair (.sl 62 (.pair (.int .i64) (.pair (.int .i64) (.pair (.sl 3 (.int .i64)) (.pair (.int .i64) (.pair (.int .i64) .unit)))))) .unit)))), (.ow (.pr .sh (.pr .sh (.pr (.ow .sh) .sh)))), (5, 0))], [((7, 0), (.own 0)), ((6, 0), (.own 1)), ((1, 0), (.val (.int .i64))), ((8, 0), (.val (.int .i64))), ((5, 0), (.own 2))]⟩ true
     (.loop ⟨[((.sl 43 (.sl 4 .bool)), (.ow (.ow .sh)), (7, 0)), ((.sl 43 (.sl 4 .bool)), (.ow (.ow .sh)), (6, 0)), ((.ptr 26 (.pair (.sl 55 (.pair (.pair (.int .i64) (.pair (.int .i64) (.pair (.int .i64) (.pair (.int .i64) .unit)))) (.pair (.int .i64) (.pair (.int .i64) (.pair (.sl 2 (.int .i64)) (.pair (.sl 57 (.pair (.int .u8) (.pair (.int .u8) (.pair (.int .u8) (.pair (.int .u8) (.pair (.int .i32) .unit)))))) (.pair (.sl 94 (.pair (.int .i64) (.pair (.int .i64) (.pair (.int .i64) (.pair (.int .i64) (.pair (.int .i64) (.pair .bool .unit))))))) (.pair (.int .i64) (.pair (.arr 8 (.int .i64)) (.pair (.sl 96 (.pair (.int .i64) (.pair (.int .i64) .unit))) (.pair (.sl 4 .bool) (.pair (.sl 98 (.pair (.int .i64) (.pair (.int .i64) .unit))) .unit)))))))))))) (.pair (.sl 65 (.pair (.int .i64) (.pair (.int .i64) (.pair .bool (.pair (.int .i64) (.pair (.int .i64) (.pair (.int .i64) .unit))))))) (.pair (.sl 62 (.pair (.int .i64) (.pair (.int .i64) (.pair (.sl 3 (.int .i64)) (.pair (.int .i64) (.pair (.int .i64) .unit)))))) .unit)))), (.ow (.pr .sh (.pr .sh (.pr (.ow .sh) .sh)))), (5, 0))], [((9, 0), (.val (.int .i64))), ((7, 0), (.own 0)), ((8, 0), (.val (.int .i64))), ((6, 0), (.own 1)), ((1, 0), (.val (.int .i64))), ((5, 0), (.own 2))]⟩
       (.seq (.seq .leaf
       (.cond none
         .leaf
         .leaf))
       (.seq (.block ⟨[((.sl 43 (.sl 4 .bool)), (.ow (.ow .sh)), (7, 0)), ((.sl 43 (.sl 4 .bool)), (.ow (.ow .sh)), (6, 0)), ((.ptr 26 (.pair (.sl 55 (.pair (.pair (.int .i64) (.pair (.int .i64) (.pair (.int .i64) (.pair (.int .i64) .unit)))) (.pair (.int .i64) (.pair (.int .i64) (.pair (.sl 2 (.int .i64)) (.pair (.sl 57 (.pair (.int .u8) (.pair (.int .u8) (.pair (.int .u8) (.pair (.int .u8) (.pair (.int .i32) .unit)))))) (.pair (.sl 94 (.pair (.int .i64) (.pair (.int .i64) (.pair (.int .i64) (.pair (.int .i64) (.pair (.int .i64) (.pair .bool .unit))))))) (.pair (.int .i64) (.pair (.arr 8 (.int .i64)) (.pair (.sl 96 (.pair (.int .i64) (.pair (.int .i64) .unit))) (.pair (.sl 4 .bool) (.pair (.sl 98 (.pair (.int .i64) (.pair (.int .i64) .unit))) .unit)))))))))))) (.pair (.sl 65 (.pair (.int .i64) (.pair (.int .i64) (.pair .bool (.pair (.int .i64) (.pair (.int .i64) (.pair (.int .i64) .unit))))))) (.pair (.sl 62 (.pair (.int .i64) (.pair (.int .i64) (.pair (.sl 3 (.int .i64)) (.pair (.int .i64) (.pair (.int .i64) .unit)))))) .unit)))), (.ow (.pr .sh (.pr .sh (.pr (.ow .sh) .sh)))), (5, 0))], [((7, 0), (.own 0)), ((8, 0), (.val (.int .i64))), ((6, 0), (.own 1)), ((1, 0), (.val (.int .i64))), ((5, 0), (.own 2)), ((9, 0), (.val (.int .i64)))]⟩ true
         (.seq (.seq .leaf
         (.cond none
           (.seq .leaf
           .leaf)
           .leaf))
         (.seq .leaf
         (.block ⟨[((.sl 43 (.sl 4 .bool)), (.ow (.ow .sh)), (7, 0)), ((.sl 43 (.sl 4 .bool)), (.ow (.ow .sh)), (6, 0)), ((.ptr 26 (.pair (.sl 55 (.pair (.pair (.int .i64) (.pair (.int .i64) (.pair (.int .i64) (.pair (.int .i64) .unit)))) (.pair (.int .i64) (.pair (.int .i64) (.pair (.sl 2 (.int .i64)) (.pair (.sl 57 (.pair (.int .u8) (.pair (.int .u8) (.pair (.int .u8) (.pair (.int .u8) (.pair (.int .i32) .unit)))))) (.pair (.sl 94 (.pair (.int .i64) (.pair (.int .i64) (.pair (.int .i64) (.pair (.int .i64) (.pair (.int .i64) (.pair .bool .unit))))))) (.pair (.int .i64) (.pair (.arr 8 (.int .i64)) (.pair (.sl 96 (.pair (.int .i64) (.pair (.int .i64) .unit))) (.pair (.sl 4 .bool) (.pair (.sl 98 (.pair (.int .i64) (.pair (.int .i64) .unit))) .unit)))))))))))) (.pair (.sl 65 (.pair (.int .i64) (.pair (.int .i64) (.pair .bool (.pair (.int .i64) (.pair (.int .i64) (.pair (.int .i64) .unit))))))) (.pair (.sl 62 (.pair (.int .i64) (.pair (.int .i64) (.pair (.sl 3 (.int .i64)) (.pair (.int .i64) (.pair (.int .i64) .unit)))))) .unit)))), (.ow (.pr .sh (.pr .sh (.pr (.ow .sh) .sh)))), (5, 0))], [((7, 0), (.own 0)), ((8, 0), (.val (.int .i64))), ((6, 0), (.own 1)), ((1, 0), (.val (.int .i64))), ((5, 0), (.own 2)), ((9, 0), (.val (.int .i64)))]⟩ true
           (.loop ⟨[((.sl 43 (.sl 4 .bool)), (.ow (.ow .sh)), (7, 0)), ((.sl 43 (.sl 4 .bool)), (.ow (.ow .sh)), (6, 0)), ((.ptr 26 (.pair (.sl 55 (.pair (.pair (.int .i64) (.pair (.int .i64) (.pair (.int .i64) (.pair (.int .i64) .unit)))) (.pair (.int .i64) (.pair (.int .i64) (.pair (.sl 2 (.int .i64)) (.pair (.sl 57 (.pair (.int .u8) (.pair (.int .u8) (.pair (.int .u8) (.pair (.int .u8) (.pair (.int .i32) .unit)))))) (.pair (.sl 94 (.pair (.int .i64) (.pair (.int .i64) (.pair (.int .i64) (.pair (.int .i64) (.pair (.int .i64) (.pair .bool .unit))))))) (.pair (.int .i64) (.pair (.arr 8 (.int .i64)) (.pair (.sl 96 (.pair (.int .i64) (.pair (.int .i64) .unit))) (.pair (.sl 4 .bool) (.pair (.sl 98 (.pair (.int .i64) (.pair (.int .i64) .unit))) .unit)))))))))))) (.pair (.sl 65 (.pair (.int .i64) (.pair (.int .i64) (.pair .bool (.pair (.int .i64) (.pair (.int .i64) (.pair (.int .i64) .unit))))))) (.pair (.sl 62 (.pair (.int .i64) (.pair (.int .i64) (.pair (.sl 3 (.int .i64)) (.pair (.int .i64) (.pair (.int .i64) .unit)))))) .unit)))), (.ow (.pr .sh (.pr .sh (.pr (.ow .sh) .sh)))), (5, 0))], [((9, 0), (.val (.int .i64))), ((7, 0), (.own 0)), ((10, 0), (.val (.int .i64))), ((8, 0), (.val (.int .i64))), ((6, 0), (.own 1)), ((1, 0), (.val (.int .i64))), ((5, 0), (.own 2))]⟩
             (.seq (.seq .leaf
             (.cond none
               .leaf
               .leaf))
             (.seq (.block ⟨[((.sl 43 (.sl 4 .bool)), (.ow (.ow .sh)), (7, 0)), ((.sl 43 (.sl 4 .bool)), (.ow (.ow .sh)), (6, 0)), ((.ptr 26 (.pair (.sl 55 (.pair (.pair (.int .i64) (.pair (.int .i64) (.pair (.int .i64) (.pair (.int .i64) .unit)))) (.pair (.int .i64) (.pair (.int .i64) (.pair (.sl 2 (.int .i64)) (.pair (.sl 57 (.pair (.int .u8) (.pair (.int .u8) (.pair (.int .u8) (.pair (.int .u8) (.pair (.int .i32) .unit)))))) (.pair (.sl 94 (.pair (.int .i64) (.pair (.int .i64) (.pair (.int .i64) (.pair (.int .i64) (.pair (.int .i64) (.pair .bool .unit))))))) (.pair (.int .i64) (.pair (.arr 8 (.int .i64)) (.pair (.sl 96 (.pair (.int .i64) (.pair (.int .i64) .unit))) (.pair (.sl 4 .bool) (.pair (.sl 98 (.pair (.int .i64) (.pair (.int .i64) .unit))) .unit)))))))))))) (.pair (.sl 65 (.pair (.int .i64) (.pair (.int .i64) (.pair .bool (.pair (.int .i64) (.pair (.int .i64) (.pair (.int .i64) .unit))))))) (.pair (.sl 62 (.pair (.int .i64) (.pair (.int .i64) (.pair (.sl 3 (.int .i64)) (.pair (.int .i64) (.pair (.int .i64) .unit)))))) .unit)))), (.ow (.pr .sh (.pr .sh (.pr (.ow .sh) .sh)))), (5, 0))], [((9, 0), (.val (.int .i64))), ((7, 0), (.own 0)), ((8, 0), (.val (.int .i64))), ((6, 0), (.own 1)), ((1, 0), (.val (.int .i64))), ((5, 0), (.own 2)), ((10, 0), (.val (.int .i64)))]⟩ true
               (.seq (.seq .leaf
               (.cond none
                 (.seq .leaf
                 .leaf)
                 .leaf))
               (.seq .leaf
               (.block ⟨[((.sl 43 (.sl 4 .bool)), (.ow (.ow .sh)), (7, 0)), ((.sl 43 (.sl 4 .bool)), (.ow (.ow .sh)), (6, 0)), ((.ptr 26 (.pair (.sl 55 (.pair (.pair (.int .i64) (.pair (.int .i64) (.pair (.int .i64) (.pair (.int .i64) .unit)))) (.pair (.int .i64) (.pair (.int .i64) (.pair (.sl 2 (.int .i64)) (.pair (.sl 57 (.pair (.int .u8) (.pair (.int .u8) (.pair (.int .u8) (.pair (.int .u8) (.pair (.int .i32) .unit)))))) (.pair (.sl 94 (.pair (.int .i64) (.pair (.int .i64) (.pair (.int .i64) (.pair (.int .i64) (.pair (.int .i64) (.pair .bool .unit))))))) (.pair (.int .i64) (.pair (.arr 8 (.int .i64)) (.pair (.sl 96 (.pair (.int .i64) (.pair (.int .i64) .unit))) (.pair (.sl 4 .bool) (.pair (.sl 98 (.pair (.int .i64) (.pair (.int .i64) .unit))) .unit)))))))))))) (.pair (.sl 65 (.pair (.int .i64) (.pair (.int .i64) (.pair .bool (.pair (.int .i64) (.pair (.int .i64) (.pair (.int .i64) .unit))))))) (.pair (.sl 62 (.pair (.int .i64) (.pair (.int .i64) (.pair (.sl 3 (.int .i64)) (.pair (.int .i64) (.pair (.int .i64) .unit)))))) .unit)))), (.ow (.pr .sh (.pr .sh (.pr (.ow .sh) .sh)))), (5, 0))], [((9, 0), (.val (.int .i64))), ((7, 0), (.own 0)), ((8, 0), (.val (.int .i64))), ((6, 0), (.own 1)), ((1, 0), (.val (.int .i64))), ((5, 0), (.own 2)), ((10, 0), (.val (.int .i64)))]⟩ true
                 (.loop ⟨[((.sl 43 (.sl 4 .bool)), (.ow (.ow .sh)), (7, 0)), ((.sl 43 (.sl 4 .bool)), (.ow (.ow .sh)), (6, 0)), ((.ptr 26 (.pair (.sl 55 (.pair (.pair (.int .i64) (.pair (.int .i64) (.pair (.int .i64) (.pair (.int .i64) .unit)))) (.pair (.int .i64) (.pair (.int .i64) (.pair (.sl 2 (.int .i64)) (.pair (.sl 57 (.pair (.int .u8) (.pair (.int .u8) (.pair (.int .u8) (.pair (.int .u8) (.pair (.int .i32) .unit)))))) (.pair (.sl 94 (.pair (.int .i64) (.pair (.int .i64) (.pair (.int .i64) (.pair (.int .i64) (.pair (.int .i64) (.pair .bool .unit))))))) (.pair (.int .i64) (.pair (.arr 8 (.int .i64)) (.pair (.sl 96 (.pair (.int .i64) (.pair (.int .i64) .unit))) (.pair (.sl 4 .bool) (.pair (.sl 98 (.pair (.int .i64) (.pair (.int .i64) .unit))) .unit)))))))))))) (.pair (.sl 65 (.pair (.int .i64) (.pair (.int .i64) (.pair .bool (.pair (.int .i64) (.pair (.int .i64) (.pair (.int .i64) .unit))))))) (.pair (.sl 62 (.pair (.int .i64) (.pair (.int .i64) (.pair (.sl 3 (.int .i64)) (.pair (.int .i64) (.pair (.int .i64) .unit)))))) .unit)))), (.ow (.pr .sh (.pr .sh (.pr (.ow .sh) .sh)))), (5, 0))], [((11, 0), (.val (.int .i64))), ((9, 0), (.val (.int .i64))), ((7, 0), (.own 0)), ((10, 0), (.val (.int .i64))), ((8, 0), (.val (.int .i64))), ((6, 0), (.own 1)), ((1, 0), (.val (.int .i64))), ((5, 0), (.own 2))]⟩
                   (.seq (.seq .leaf
                   (.cond none
                     .leaf
                     .leaf))
                   (.seq (.block ⟨[((.sl 43 (.sl 4 .bool)), (.ow (.ow .sh)), (7, 0)), ((.sl 43 (.sl 4 .bool)), (.ow (.ow .sh)), (6, 0)), ((.ptr 26 (.pair (.sl 55 (.pair (.pair (.int .i64) (.pair (.int .i64) (.pair (.int .i64) (.pair (.int .i64) .unit)))) (.pair (.int .i64) (.pair (.int .i64) (.pair (.sl 2 (.int .i64)) (.pair (.sl 57 (.pair (.int .u8) (.pair (.int .u8) (.pair (.int .u8) (.pair (.int .u8) (.pair (.int .i32) .unit)))))) (.pair (.sl 94 (.pair (.int .i64) (.pair (.int .i64) (.pair (.int .i64) (.pair (.int .i64) (.pair (.int .i64) (.pair .bool .unit))))))) (.pair (.int .i64) (.pair (.arr 8 (.int .i64)) (.pair (.sl 96 (.pair (.int .i64) (.pair (.int .i64) .unit))) (.pair (.sl 4 .bool) (.pair (.sl 98 (.pair (.int .i64) (.pair (.int .i64) .unit))) .unit)))))))))))) (.pair (.sl 65 (.pair (.int .i64) (.pair (.int .i64) (.pair .bool (.pair (.int .i64) (.pair (.int .i64) (.pair (.int .i64) .unit))))))) (.pair (.sl 62 (.pair (.int .i64) (.pair (.int .i64) (.pair (.sl 3 (.int .i64)) (.pair (.int .i64) (.pair (.int .i64) .unit)))))) .unit)))), (.ow (.pr .sh (.pr .sh (.pr (.ow .sh) .sh)))), (5, 0))], [((9, 0), (.val (.int .i64))), ((7, 0), (.own 0)), ((10, 0), (.val (.int .i64))), ((8, 0), (.val (.int .i64))), ((6, 0), (.own 1)), ((1, 0), (.val (.int .i64))), ((5, 0), (.own 2)), ((11, 0), (.val (.int .i64)))]⟩ true
                     (.seq .leaf
                     (.cond none
                       (.seq .leaf
                       .leaf)
                       .leaf)))
                   .leaf)))))))
             .leaf)))))))
       .leaf)))))
   (.seq (.seq .leaf
   (.block ⟨[((.sl 43 (.sl 4 .bool)), (.ow (.ow .sh)), (7, 0)), ((.ptr 26 (.pair (.sl 55 (.pair (.pair (.int .i64) (.pair (.int .i64) (.pair (.int .i64) (.pair (.int .i64) .unit)))) (.pair (.int .i64) (.pair (.int .i64) (.pair (.sl 2 (.int .i64)) (.pair (.sl 57 (.pair (.int .u8) (.pair (.int .u8) (.pair (.int .u8) (.pair (.int .u8) (.pair (.int .i32) .unit)))))) (.pair (.sl 94 (.pair (.int .i64) (.pair (.int .i64) (.pair (.int .i64) (.pair (.int .i64) (.pair (.int .i64) (.pair .bool .unit))))))) (.pair (.int .i64) (.pair (.arr 8 (.int .i64)) (.pair (.sl 96 (.pair (.int .i64) (.pair (.int .i64) .unit))) (.pair (.sl 4 .bool) (.pair (.sl 98 (.pair (.int .i64) (.pair (.int .i64) .unit))) .unit)))))))))))) (.pair (.sl 65 (.pair (.int .i64) (.pair (.int .i64) (.pair .bool (.pair (.int .i64) (.pair (.int .i64) (.pair (.int .i64) .unit))))))) (.pair (.sl 62 (.pair (.int .i64) (.pair (.int .i64) (.pair (.sl 3 (.int .i64)) (.pair (.int .i64) (.pair (.int .i64) .unit)))))) .unit)))), (.ow (.pr .sh (.pr .sh (.pr (.ow .sh) .sh)))), (5, 0))], [((1, 0), (.val (.int .i64))), ((7, 0), (.own 0)), ((8, 0), (.val (.int .i64))), ((5, 0), (.own 1))]⟩ true
     (.loop ⟨[((.sl 43 (.sl 4 .bool)), (.ow (.ow .sh)), (7, 0)), ((.sl 43 (.sl 4 .bool)), (.ow (.ow .sh)), (6, 0)), ((.ptr 26 (.pair (.sl 55 (.pair (.pair (.int .i64) (.pair (.int .i64) (.pair (.int .i64) (.pair (.int .i64) .unit)))) (.pair (.int .i64) (.pair (.int .i64) (.pair (.sl 2 (.int .i64)) (.pair (.sl 57 (.pair (.int .u8) (.pair (.int .u8) (.pair (.int .u8) (.pair (.int .u8) (.pair (.int .i32) .unit)))))) (.pair (.sl 94 (.pair (.int .i64) (.pair (.int .i64) (.pair (.int .i64) (.pair (.int .i64) (.pair (.int .i64) (.pair .bool .unit))))))) (.pair (.int .i64) (.pair (.arr 8 (.int .i64)) (.pair (.sl 96 (.pair (.int .i64) (.pair (.int .i64) .unit))) (.pair (.sl 4 .bool) (.pair (.sl 98 (.pair (.int .i64) (.pair (.int .i64) .unit))) .unit)))))))))))) (.pair (.sl 65 (.pair (.int .i64) (.pair (.int .i64) (.pair .bool (.pair (.int .i64) (.pair (.int .i64) (.pair (.int .i64) .unit))))))) (.pair (.sl 62 (.pair (.int .i64) (.pair (.int .i64) (.pair (.sl 3 (.int .i64)) (.pair (.int .i64) (.pair (.int .i64) .unit)))))) .unit)))), (.ow (.pr .sh (.pr .sh (.pr (.ow .sh) .sh)))), (5, 0))], [((12, 0), (.val (.int .i64))), ((7, 0), (.own 0)), ((6, 0), (.own 1)), ((1, 0), (.val (.int .i64))), ((8, 0), (.val (.int .i64))), ((5, 0), (.own 2))]⟩
       (.seq (.seq .leaf
       (.cond none
         .leaf
         .leaf))
       (.seq (.block ⟨[((.sl 43 (.sl 4 .bool)), (.ow (.ow .sh)), (7, 0)), ((.sl 43 (.sl 4 .bool)), (.ow (.ow .sh)), (6, 0)), ((.ptr 26 (.pair (.sl 55 (.pair (.pair (.int .i64) (.pair (.int .i64) (.pair (.int .i64) (.pair (.int .i64) .unit)))) (.pair (.int .i64) (.pair (.int .i64) (.pair (.sl 2 (.int .i64)) (.pair (.sl 57 (.pair (.int .u8) (.pair (.int .u8) (.pair (.int .u8) (.pair (.int .u8) (.pair (.int .i32) .unit)))))) (.pair (.sl 94 (.pair (.int .i64) (.pair (.int .i64) (.pair (.int .i64) (.pair (.int .i64) (.pair (.int .i64) (.pair .bool .unit))))))) (.pair (.int .i64) (.pair (.arr 8 (.int .i64)) (.pair (.sl 96 (.pair (.int .i64) (.pair (.int .i64) .unit))) (.pair (.sl 4 .bool) (.pair (.sl 98 (.pair (.int .i64) (.pair (.int .i64) .unit))) .unit)))))))))))) (.pair (.sl 65 (.pair (.int .i64) (.pair (.int .i64) (.pair .bool (.pair (.int .i64) (.pair (.int .i64) (.pair (.int .i64) .unit))))))) (.pair (.sl 62 (.pair (.int .i64) (.pair (.int .i64) (.pair (.sl 3 (.int .i64)) (.pair (.int .i64) (.pair (.int .i64) .unit)))))) .unit)))), (.ow (.pr .sh (.pr .sh (.pr (.ow .sh) .sh)))), (5, 0))], [((7, 0), (.own 0)), ((6, 0), (.own 1)), ((1, 0), (.val (.int .i64))), ((8, 0), (.val (.int .i64))), ((5, 0), (.own 2)), ((12, 0), (.val (.int .i64)))]⟩ true
         (.seq .leaf
         (.cond none
           (.seq .leaf
           .leaf)
           .leaf)))
       .leaf)))))
   (.seq .leaf
   (.seq (.seq .leaf
   (.cond none
     (.seq .leaf
     .leaf)
     .leaf))
   (.seq .leaf
   (.seq (.seq .leaf
   (.block ⟨[((.sl 3 (.int .i64)), (.ow .sh), (13, 0))], [((13, 0), (.own 0)), ((15, 0), (.val (.int .i64))), ((14, 0), (.val (.int .i64)))]⟩ true
     (.loop ⟨[((.sl 3 (.int .i64)), (.ow .sh), (13, 0)), ((.sl 43 (.sl 4 .bool)), (.ow (.ow .sh)), (7, 0))], [((16, 0), (.val (.int .i64))), ((15, 0), (.val (.int .i64))), ((13, 0), (.own 0)), ((1, 0), (.val (.int .i64))), ((7, 0), (.own 1)), ((14, 0), (.val (.int .i64))), ((8, 0), (.val (.int .i64)))]⟩
       (.seq (.seq .leaf
       (.cond none
         .leaf
         .leaf))
       (.seq (.block ⟨[((.sl 3 (.int .i64)), (.ow .sh), (13, 0)), ((.sl 43 (.sl 4 .bool)), (.ow (.ow .sh)), (7, 0))], [((15, 0), (.val (.int .i64))), ((13, 0), (.own 0)), ((1, 0), (.val (.int .i64))), ((7, 0), (.own 1)), ((14, 0), (.val (.int .i64))), ((8, 0), (.val (.int .i64))), ((16, 0), (.val (.int .i64)))]⟩ true
         (.seq .leaf
         (.cond (some ⟨[((.sl 3 (.int .i64)), (.ow .sh), (13, 0)), ((.sl 43 (.sl 4 .bool)), (.ow (.ow .sh)), (7, 0))], [((15, 0), (.val (.int .i64))), ((13, 0), (.own 0)), ((1, 0), (.val (.int .i64))), ((7, 0), (.own 1)), ((14, 0), (.val (.int .i64))), ((8, 0), (.val (.int .i64))), ((16, 0), (.val (.int .i64)))]⟩)
           (.seq (.seq .leaf
           (.cond none
             (.seq .leaf
             .leaf)
             .leaf))
           .leaf)
           .leaf)))
       .leaf)))))
   (.seq .leaf
   .leaf)))))))))))))
def d4_K1 (x0 : Nat) : ((((List Int) × Unit) × (Int × (Int × Unit))) → (Option ((Bool × Unit) × Unit))) :=
  (fun (x17 : (((List Int) × Unit) × (Int × (Int × Unit)))) => (lt (x17.2.2.1 == (0 : Int)) fun (x18 : Bool) =>
  (lt (((List.length x17.1.1) : Nat) : Int) fun (x19 : Int) =>
  (lt (x17.2.1 == x19) fun (x20 : Bool) =>
  (lt (if (x18 = Bool.true) then
  x20
  else Bool.false) fun (x21 : Bool) =>
  (Option.bind (if (((x21 == Bool.true) && Bool.true) = Bool.true) then
  (d24 x0 ())
  else (Option.some ((Bool.false, ()), ()))) fun (x22 : ((Bool × Unit) × Unit)) =>
  (Option.some (((if (x21 = Bool.true) then
  x22.1.1
  else Bool.false), ()), ()))))))))
def d4_K2 (x18 : ((((List Int) × ((List (List Bool)) × Unit)) × (Int × (Int × (Int × (Int × (Int × Unit)))))) → (Option ((Bool × Unit) × Unit)))) : ((((List Int) × ((List (List Bool)) × Unit)) × (Int × (Int × (Int × (Int × (Int × Unit)))))) → (Option ((Bool × Unit) × Unit))) :=
  (fun (x21 : (((List Int) × ((List (List Bool)) × Unit)) × (Int × (Int × (Int × (Int × (Int × Unit))))))) => (x18 ((x21.1.1, (x21.1.2.1, ())), ((Go.IntKind.wrap Go.IntKind.i64 (x21.2.2.2.2.2.1 + (1 : Int))), (x21.2.1, (x21.2.2.1, (x21.2.2.2.1, (x21.2.2.2.2.1, ()))))))))
def d4_K3 (x21 : ((((List Int) × ((List (List Bool)) × Unit)) × (Int × (Int × (Int × (Int × (Int × Unit)))))) → (Option ((Bool × Unit) × Unit)))) : ((((List Int) × ((List (List Bool)) × Unit)) × (Int × (Int × (Int × (Int × (Int × Unit)))))) → (Option ((Bool × Unit) × Unit))) :=
  (fun (x24 : (((List Int) × ((List (List Bool)) × Unit)) × (Int × (Int × (Int × (Int × (Int × Unit))))))) => (x21 ((x24.1.1, (x24.1.2.1, ())), (x24.2.1, (x24.2.2.1, (x24.2.2.2.1, (x24.2.2.2.2.1, (x24.2.2.2.2.2.1, ()))))))))
def d4_L4 (x17 : ((((List Int) × Unit) × (Int × (Int × Unit))) → (Option ((Bool × Unit) × Unit)))) : (((((List Int) × ((List (List Bool)) × Unit)) × (Int × (Int × (Int × (Int × (Int × Unit)))))) → (Option ((Bool × Unit) × Unit))) → ((((List Int) × ((List (List Bool)) × Unit)) × (Int × (Int × (Int × (Int × (Int × Unit)))))) → (Option ((Bool × Unit) × Unit)))) :=
  (fun (x18 : ((((List Int) × ((List (List Bool)) × Unit)) × (Int × (Int × (Int × (Int × (Int × Unit)))))) → (Option ((Bool × Unit) × Unit)))) => (fun (x19 : (((List Int) × ((List (List Bool)) × Unit)) × (Int × (Int × (Int × (Int × (Int × Unit))))))) => (lt (Decidable.decide (x19.2.1 < x19.2.2.2.2.2.1)) fun (x20 : Bool) =>
  (if (x20 = Bool.true) then
  (shr (d4_K2 x18) (fun (x21 : ((((List Int) × ((List (List Bool)) × Unit)) × (Int × (Int × (Int × (Int × (Int × Unit)))))) → (Option ((Bool × Unit) × Unit)))) => (if (((Decidable.decide ((0 : Int) ≤ x19.2.1)) && (Decidable.decide (x19.2.1 < (((List.length x19.1.2.1) : Nat) : Int)))) = Bool.true) then
  (if (((Decidable.decide ((Int.toNat x19.2.1) < (List.length x19.1.2.1))) && Bool.true) = Bool.true) then
  (lt (Go.IntKind.wrap Go.IntKind.i64 (x19.2.2.2.1 - (1 : Int))) fun (x22 : Int) =>
  (if ((((Decidable.decide ((Int.toNat x19.2.1) < (List.length x19.1.2.1))) && Bool.true) && ((Decidable.decide ((0 : Int) ≤ x22)) && (Decidable.decide (x22 < (((List.length (List.getD x19.1.2.1 (Int.toNat x19.2.1) ([] : List Bool))) : Nat) : Int))))) = Bool.true) then
  (if (((Decidable.decide ((Int.toNat x19.2.1) < (List.length x19.1.2.1))) && ((Decidable.decide ((Int.toNat x22) < (List.length (List.getD x19.1.2.1 (Int.toNat x19.2.1) ([] : List Bool))))) && Bool.true)) = Bool.true) then
  (lt (List.getD (List.getD x19.1.2.1 (Int.toNat x19.2.1) ([] : List Bool)) (Int.toNat x22) Bool.false) fun (x23 : Bool) =>
  (shr (d4_K3 x21) (fun (x24 : ((((List Int) × ((List (List Bool)) × Unit)) × (Int × (Int × (Int × (Int × (Int × Unit)))))) → (Option ((Bool × Unit) × Unit)))) => (if (x23 = Bool.true) then
  (lt (((List.length x19.1.1) : Nat) : Int) fun (x25 : Int) =>
  (lt (Decidable.decide (x19.2.2.1 ≥ x25)) fun (x26 : Bool) =>
  (if (((Bool.not ((x26 == Bool.false) && Bool.true)) || ((Decidable.decide ((0 : Int) ≤ x19.2.2.1)) && (Decidable.decide (x19.2.2.1 < (((List.length x19.1.1) : Nat) : Int))))) = Bool.true) then
  (if (((Bool.not ((x26 == Bool.false) && Bool.true)) || ((Decidable.decide ((Int.toNat x19.2.2.1) < (List.length x19.1.1))) && Bool.true)) = Bool.true) then
  (lt (List.getD x19.1.1 (Int.toNat x19.2.2.1) (0 : Int)) fun (x27 : Int) =>
  (lt (Go.IntKind.wrap Go.IntKind.i64 (x19.2.1 + (1 : Int))) fun (x28 : Int) =>
  (lt (x27 != x28) fun (x29 : Bool) =>
  (lt (if (x26 = Bool.true) then
  Bool.true
  else x29) fun (x30 : Bool) =>
  (if (x30 = Bool.true) then
  (Option.some ((Bool.false, ()), ()))
  else (x24 ((x19.1.1, (x19.1.2.1, ())), ((Go.IntKind.wrap Go.IntKind.i64 (x19.2.2.1 + (1 : Int))), (x19.2.2.2.1, (x19.2.2.2.2.1, (x19.2.2.2.2.2.1, (x19.2.1, ()))))))))))))
  else (Option.none))
  else (Option.none))))
  else (x24 ((x19.1.1, (x19.1.2.1, ())), (x19.2.2.1, (x19.2.2.2.1, (x19.2.2.2.2.1, (x19.2.2.2.2.2.1, (x19.2.1, ())))))))))))
  else (Option.none))
  else (Option.none)))
  else (Option.none))
  else (Option.none))))
  else (x17 ((x19.1.1, ()), (x19.2.2.1, (x19.2.2.2.2.1, ()))))))))
def d4_K5 (x0 : Nat) : ((((List (List Bool)) × (IM × Unit)) × (Int × (Int × Unit))) → (Option ((Bool × Unit) × Unit))) :=
  (fun (x12 : (((List (List Bool)) × (IM × Unit)) × (Int × (Int × Unit)))) => (Option.bind (d12 x0 (x12.1.2.1, (x12.2.1, ()))) fun (x13 : (((List Int) × (Int × Unit)) × Unit)) =>
  (lt (Decidable.decide (x12.2.1 < (1 : Int))) fun (x14 : Bool) =>
  (lt (Decidable.decide (x12.2.1 > x12.2.2.1)) fun (x15 : Bool) =>
  (lt (if (x14 = Bool.true) then
  Bool.true
  else x15) fun (x16 : Bool) =>
  (if (x16 = Bool.true) then
  (lt (x13.1.2.1 == (220 : Int)) fun (x17 : Bool) =>
  (lt (((List.length x13.1.1) : Nat) : Int) fun (x18 : Int) =>
  (lt (x18 == (0 : Int)) fun (x19 : Bool) =>
  (lt (if (x17 = Bool.true) then
  x19
  else Bool.false) fun (x20 : Bool) =>
  (Option.bind (if (((x20 == Bool.true) && Bool.true) = Bool.true) then
  (d24 x0 ())
  else (Option.some ((Bool.false, ()), ()))) fun (x21 : ((Bool × Unit) × Unit)) =>
  (Option.some (((if (x20 = Bool.true) then
  x21.1.1
  else Bool.false), ()), ())))))))
  else (shr (d4_K1 x0) (fun (x17 : ((((List Int) × Unit) × (Int × (Int × Unit))) → (Option ((Bool × Unit) × Unit)))) => (loopN (d4_L4 x17) x0 ((x13.1.1, (x12.1.1, ())), ((0 : Int), ((0 : Int), (x12.2.1, (x13.1.2.1, (x12.2.2.1, ())))))))))))))))
def d4_K6 (x13 : ((((List (List Bool)) × ((List (List Bool)) × (IM × Unit))) × (Int × (Int × (Int × Unit)))) → (Option ((Bool × Unit) × Unit)))) : ((((List (List Bool)) × ((List (List Bool)) × (IM × Unit))) × (Int × (Int × (Int × Unit)))) → (Option ((Bool × Unit) × Unit))) :=
  (fun (x16 : (((List (List Bool)) × ((List (List Bool)) × (IM × Unit))) × (Int × (Int × (Int × Unit))))) => (x13 ((x16.1.1, (x16.1.2.1, (x16.1.2.2.1, ()))), ((Go.IntKind.wrap Go.IntKind.i64 (x16.2.2.2.1 + (1 : Int))), (x16.2.1, (x16.2.2.1, ()))))))
def d4_L7 (x0 : Nat) (x12 : ((((List (List Bool)) × (IM × Unit)) × (Int × (Int × Unit))) → (Option ((Bool × Unit) × Unit)))) : (((((List (List Bool)) × ((List (List Bool)) × (IM × Unit))) × (Int × (Int × (Int × Unit)))) → (Option ((Bool × Unit) × Unit))) → ((((List (List Bool)) × ((List (List Bool)) × (IM × Unit))) × (Int × (Int × (Int × Unit)))) → (Option ((Bool × Unit) × Unit)))) :=
  (fun (x13 : ((((List (List Bool)) × ((List (List Bool)) × (IM × Unit))) × (Int × (Int × (Int × Unit)))) → (Option ((Bool × Unit) × Unit)))) => (fun (x14 : (((List (List Bool)) × ((List (List Bool)) × (IM × Unit))) × (Int × (Int × (Int × Unit))))) => (lt (Decidable.decide (x14.2.1 < x14.2.2.2.1)) fun (x15 : Bool) =>
  (if (x15 = Bool.true) then
  (shr (d4_K6 x13) (fun (x16 : ((((List (List Bool)) × ((List (List Bool)) × (IM × Unit))) × (Int × (Int × (Int × Unit)))) → (Option ((Bool × Unit) × Unit)))) => (Option.bind (d23 x0 (x14.1.2.1, (x14.1.1, (x14.2.1, ())))) fun (x17 : ((Bool × Unit) × Unit)) =>
  (lt (Bool.not x17.1.1) fun (x18 : Bool) =>
  (if (x18 = Bool.true) then
  (Option.some ((Bool.false, ()), ()))
  else (x16 ((x14.1.1, (x14.1.2.1, (x14.1.2.2.1, ()))), (x14.2.2.1, (x14.2.2.2.1, (x14.2.1, ()))))))))))
  else (x12 ((x14.1.1, (x14.1.2.2.1, ())), (x14.2.2.1, (x14.2.2.2.1, ()))))))))
def d4_K8 (x0 : Nat) : ((((List (List Bool)) × ((List (List Bool)) × (IM × Unit))) × (Int × (Int × Unit))) → (Option ((Bool × Unit) × Unit))) :=
  (fun (x11 : (((List (List Bool)) × ((List (List Bool)) × (IM × Unit))) × (Int × (Int × Unit)))) => (shr (d4_K5 x0) (fun (x12 : ((((List (List Bool)) × (IM × Unit)) × (Int × (Int × Unit))) → (Option ((Bool × Unit) × Unit)))) => (loopN (d4_L7 x0 x12) x0 ((x11.1.1, (x11.1.2.1, (x11.1.2.2.1, ()))), ((0 : Int), (x11.2.1, (x11.2.2.1, ()))))))))
def d4_K9 (x12 : ((((List (List Bool)) × ((List (List Bool)) × (IM × Unit))) × (Int × (Int × (Int × Unit)))) → (Option ((Bool × Unit) × Unit)))) : ((((List (List Bool)) × ((List (List Bool)) × (IM × Unit))) × (Int × (Int × (Int × Unit)))) → (Option ((Bool × Unit) × Unit))) :=
  (fun (x15 : (((List (List Bool)) × ((List (List Bool)) × (IM × Unit))) × (Int × (Int × (Int × Unit))))) => (x12 ((x15.1.1, (x15.1.2.1, (x15.1.2.2.1, ()))), ((Go.IntKind.wrap Go.IntKind.i64 (x15.2.2.2.1 + (1 : Int))), (x15.2.1, (x15.2.2.1, ()))))))
def d4_K10 (x15 : ((((List (List Bool)) × ((List (List Bool)) × (IM × Unit))) × (Int × (Int × (Int × Unit)))) → (Option ((Bool × Unit) × Unit)))) : ((((List (List Bool)) × ((List (List Bool)) × (IM × Unit))) × (Int × (Int × (Int × Unit)))) → (Option ((Bool × Unit) × Unit))) :=
  (fun (x24 : (((List (List Bool)) × ((List (List Bool)) × (IM × Unit))) × (Int × (Int × (Int × Unit))))) => (x15 ((x24.1.1, (x24.1.2.1, (x24.1.2.2.1, ()))), (x24.2.1, (x24.2.2.1, (x24.2.2.2.1, ()))))))
def d4_K11 (x25 : ((((List (List Bool)) × ((List (List Bool)) × (IM × Unit))) × (Int × (Int × (Int × (Int × Unit))))) → (Option ((Bool × Unit) × Unit)))) : ((((List (List Bool)) × ((List (List Bool)) × (IM × Unit))) × (Int × (Int × (Int × (Int × Unit))))) → (Option ((Bool × Unit) × Unit))) :=
  (fun (x28 : (((List (List Bool)) × ((List (List Bool)) × (IM × Unit))) × (Int × (Int × (Int × (Int × Unit)))))) => (x25 ((x28.1.1, (x28.1.2.1, (x28.1.2.2.1, ()))), (x28.2.1, ((Go.IntKind.wrap Go.IntKind.i64 (x28.2.2.2.2.1 + (1 : Int))), (x28.2.2.1, (x28.2.2.2.1, ())))))))
def d4_K12 (x28 : ((((List (List Bool)) × ((List (List Bool)) × (IM × Unit))) × (Int × (Int × (Int × (Int × Unit))))) → (Option ((Bool × Unit) × Unit)))) : ((((List (List Bool)) × ((List (List Bool)) × (IM × Unit))) × (Int × (Int × (Int × (Int × Unit))))) → (Option ((Bool × Unit) × Unit))) :=
  (fun (x33 : (((List (List Bool)) × ((List (List Bool)) × (IM × Unit))) × (Int × (Int × (Int × (Int × Unit)))))) => (x28 ((x33.1.1, (x33.1.2.1, (x33.1.2.2.1, ()))), (x33.2.1, (x33.2.2.1, (x33.2.2.2.1, (x33.2.2.2.2.1, ())))))))
def d4_K13 (x34 : ((((List (List Bool)) × ((List (List Bool)) × (IM × Unit))) × (Int × (Int × (Int × (Int × (Int × Unit)))))) → (Option ((Bool × Unit) × Unit)))) : ((((List (List Bool)) × ((List (List Bool)) × (IM × Unit))) × (Int × (Int × (Int × (Int × (Int × Unit)))))) → (Option ((Bool × Unit) × Unit))) :=
  (fun (x37 : (((List (List Bool)) × ((List (List Bool)) × (IM × Unit))) × (Int × (Int × (Int × (Int × (Int × Unit))))))) => (x34 ((x37.1.1, (x37.1.2.1, (x37.1.2.2.1, ()))), ((Go.IntKind.wrap Go.IntKind.i64 (x37.2.2.2.2.2.1 + (1 : Int))), (x37.2.1, (x37.2.2.1, (x37.2.2.2.1, (x37.2.2.2.2.1, ()))))))))
def d4_L14 (x33 : ((((List (List Bool)) × ((List (List Bool)) × (IM × Unit))) × (Int × (Int × (Int × (Int × Unit))))) → (Option ((Bool × Unit) × Unit)))) : (((((List (List Bool)) × ((List (List Bool)) × (IM × Unit))) × (Int × (Int × (Int × (Int × (Int × Unit)))))) → (Option ((Bool × Unit) × Unit))) → ((((List (List Bool)) × ((List (List Bool)) × (IM × Unit))) × (Int × (Int × (Int × (Int × (Int × Unit)))))) → (Option ((Bool × Unit) × Unit)))) :=
  (fun (x34 : ((((List (List Bool)) × ((List (List Bool)) × (IM × Unit))) × (Int × (Int × (Int × (Int × (Int × Unit)))))) → (Option ((Bool × Unit) × Unit)))) => (fun (x35 : (((List (List Bool)) × ((List (List Bool)) × (IM × Unit))) × (Int × (Int × (Int × (Int × (Int × Unit))))))) => (lt (Decidable.decide (x35.2.1 < x35.2.2.2.2.1)) fun (x36 : Bool) =>
  (if (x36 = Bool.true) then
  (shr (d4_K13 x34) (fun (x37 : ((((List (List Bool)) × ((List (List Bool)) × (IM × Unit))) × (Int × (Int × (Int × (Int × (Int × Unit)))))) → (Option ((Bool × Unit) × Unit)))) => (if (((Decidable.decide ((0 : Int) ≤ x35.2.2.1)) && (Decidable.decide (x35.2.2.1 < (((List.length x35.1.1) : Nat) : Int)))) = Bool.true) then
  (if (((Decidable.decide ((Int.toNat x35.2.2.1) < (List.length x35.1.1))) && Bool.true) = Bool.true) then
  (if ((((Decidable.decide ((Int.toNat x35.2.2.1) < (List.length x35.1.1))) && Bool.true) && ((Decidable.decide ((0 : Int) ≤ x35.2.2.2.1)) && (Decidable.decide (x35.2.2.2.1 < (((List.length (List.getD x35.1.1 (Int.toNat x35.2.2.1) ([] : List Bool))) : Nat) : Int))))) = Bool.true) then
  (if (((Decidable.decide ((Int.toNat x35.2.2.1) < (List.length x35.1.1))) && ((Decidable.decide ((Int.toNat x35.2.2.2.1) < (List.length (List.getD x35.1.1 (Int.toNat x35.2.2.1) ([] : List Bool))))) && Bool.true)) = Bool.true) then
  (lt (List.getD (List.getD x35.1.1 (Int.toNat x35.2.2.1) ([] : List Bool)) (Int.toNat x35.2.2.2.1) Bool.false) fun (x38 : Bool) =>
  (if (((Bool.not ((x38 == Bool.true) && Bool.true)) || ((Decidable.decide ((0 : Int) ≤ x35.2.2.2.1)) && (Decidable.decide (x35.2.2.2.1 < (((List.length x35.1.1) : Nat) : Int))))) = Bool.true) then
  (if (((Bool.not ((x38 == Bool.true) && Bool.true)) || ((Decidable.decide ((Int.toNat x35.2.2.2.1) < (List.length x35.1.1))) && Bool.true)) = Bool.true) then
  (if (((Bool.not ((x38 == Bool.true) && Bool.true)) || (((Decidable.decide ((Int.toNat x35.2.2.2.1) < (List.length x35.1.1))) && Bool.true) && ((Decidable.decide ((0 : Int) ≤ x35.2.1)) && (Decidable.decide (x35.2.1 < (((List.length (List.getD x35.1.1 (Int.toNat x35.2.2.2.1) ([] : List Bool))) : Nat) : Int)))))) = Bool.true) then
  (if (((Bool.not ((x38 == Bool.true) && Bool.true)) || ((Decidable.decide ((Int.toNat x35.2.2.2.1) < (List.length x35.1.1))) && ((Decidable.decide ((Int.toNat x35.2.1) < (List.length (List.getD x35.1.1 (Int.toNat x35.2.2.2.1) ([] : List Bool))))) && Bool.true))) = Bool.true) then
  (lt (List.getD (List.getD x35.1.1 (Int.toNat x35.2.2.2.1) ([] : List Bool)) (Int.toNat x35.2.1) Bool.false) fun (x39 : Bool) =>
  (lt (if (x38 = Bool.true) then
  x39
  else Bool.false) fun (x40 : Bool) =>
  (if (((Bool.not ((x40 == Bool.true) && Bool.true)) || ((Decidable.decide ((0 : Int) ≤ x35.2.2.1)) && (Decidable.decide (x35.2.2.1 < (((List.length x35.1.1) : Nat) : Int))))) = Bool.true) then
  (if (((Bool.not ((x40 == Bool.true) && Bool.true)) || ((Decidable.decide ((Int.toNat x35.2.2.1) < (List.length x35.1.1))) && Bool.true)) = Bool.true) then
  (if (((Bool.not ((x40 == Bool.true) && Bool.true)) || (((Decidable.decide ((Int.toNat x35.2.2.1) < (List.length x35.1.1))) && Bool.true) && ((Decidable.decide ((0 : Int) ≤ x35.2.1)) && (Decidable.decide (x35.2.1 < (((List.length (List.getD x35.1.1 (Int.toNat x35.2.2.1) ([] : List Bool))) : Nat) : Int)))))) = Bool.true) then
  (if (((Bool.not ((x40 == Bool.true) && Bool.true)) || ((Decidable.decide ((Int.toNat x35.2.2.1) < (List.length x35.1.1))) && ((Decidable.decide ((Int.toNat x35.2.1) < (List.length (List.getD x35.1.1 (Int.toNat x35.2.2.1) ([] : List Bool))))) && Bool.true))) = Bool.true) then
  (lt (List.getD (List.getD x35.1.1 (Int.toNat x35.2.2.1) ([] : List Bool)) (Int.toNat x35.2.1) Bool.false) fun (x41 : Bool) =>
  (lt (Bool.not x41) fun (x42 : Bool) =>
  (lt (if (x40 = Bool.true) then
  x42
  else Bool.false) fun (x43 : Bool) =>
  (if (x43 = Bool.true) then
  (Option.some ((Bool.false, ()), ()))
  else (x37 ((x35.1.1, (x35.1.2.1, (x35.1.2.2.1, ()))), (x35.2.2.1, (x35.2.2.2.1, (x35.2.2.2.2.1, (x35.2.2.2.2.2.1, (x35.2.1, ())))))))))))
  else (Option.none))
  else (Option.none))
  else (Option.none))
  else (Option.none))))
  else (Option.none))
  else (Option.none))
  else (Option.none))
  else (Option.none)))
  else (Option.none))
  else (Option.none))
  else (Option.none))
  else (Option.none))))
  else (x33 ((x35.1.1, (x35.1.2.1, (x35.1.2.2.1, ()))), (x35.2.2.1, (x35.2.2.2.2.1, (x35.2.2.2.2.2.1, (x35.2.2.2.1, ()))))))))))
def d4_L15 (x0 : Nat) (x24 : ((((List (List Bool)) × ((List (List Bool)) × (IM × Unit))) × (Int × (Int × (Int × Unit)))) → (Option ((Bool × Unit) × Unit)))) : (((((List (List Bool)) × ((List (List Bool)) × (IM × Unit))) × (Int × (Int × (Int × (Int × Unit))))) → (Option ((Bool × Unit) × Unit))) → ((((List (List Bool)) × ((List (List Bool)) × (IM × Unit))) × (Int × (Int × (Int × (Int × Unit))))) → (Option ((Bool × Unit) × Unit)))) :=
  (fun (x25 : ((((List (List Bool)) × ((List (List Bool)) × (IM × Unit))) × (Int × (Int × (Int × (Int × Unit))))) → (Option ((Bool × Unit) × Unit)))) => (fun (x26 : (((List (List Bool)) × ((List (List Bool)) × (IM × Unit))) × (Int × (Int × (Int × (Int × Unit)))))) => (lt (Decidable.decide (x26.2.2.1 < x26.2.2.2.1)) fun (x27 : Bool) =>
  (if (x27 = Bool.true) then
  (shr (d4_K11 x25) (fun (x28 : ((((List (List Bool)) × ((List (List Bool)) × (IM × Unit))) × (Int × (Int × (Int × (Int × Unit))))) → (Option ((Bool × Unit) × Unit)))) => (if (((Decidable.decide ((0 : Int) ≤ x26.2.1)) && (Decidable.decide (x26.2.1 < (((List.length x26.1.2.1) : Nat) : Int)))) = Bool.true) then
  (if (((Decidable.decide ((Int.toNat x26.2.1) < (List.length x26.1.2.1))) && Bool.true) = Bool.true) then
  (if ((((Decidable.decide ((Int.toNat x26.2.1) < (List.length x26.1.2.1))) && Bool.true) && ((Decidable.decide ((0 : Int) ≤ x26.2.2.1)) && (Decidable.decide (x26.2.2.1 < (((List.length (List.getD x26.1.2.1 (Int.toNat x26.2.1) ([] : List Bool))) : Nat) : Int))))) = Bool.true) then
  (if (((Decidable.decide ((Int.toNat x26.2.1) < (List.length x26.1.2.1))) && ((Decidable.decide ((Int.toNat x26.2.2.1) < (List.length (List.getD x26.1.2.1 (Int.toNat x26.2.1) ([] : List Bool))))) && Bool.true)) = Bool.true) then
  (lt (List.getD (List.getD x26.1.2.1 (Int.toNat x26.2.1) ([] : List Bool)) (Int.toNat x26.2.2.1) Bool.false) fun (x29 : Bool) =>
  (if (((Bool.not ((x29 == Bool.true) && Bool.true)) || ((Decidable.decide ((0 : Int) ≤ x26.2.1)) && (Decidable.decide (x26.2.1 < (((List.length x26.1.1) : Nat) : Int))))) = Bool.true) then
  (if (((Bool.not ((x29 == Bool.true) && Bool.true)) || ((Decidable.decide ((Int.toNat x26.2.1) < (List.length x26.1.1))) && Bool.true)) = Bool.true) then
  (if (((Bool.not ((x29 == Bool.true) && Bool.true)) || (((Decidable.decide ((Int.toNat x26.2.1) < (List.length x26.1.1))) && Bool.true) && ((Decidable.decide ((0 : Int) ≤ x26.2.2.1)) && (Decidable.decide (x26.2.2.1 < (((List.length (List.getD x26.1.1 (Int.toNat x26.2.1) ([] : List Bool))) : Nat) : Int)))))) = Bool.true) then
  (if (((Bool.not ((x29 == Bool.true) && Bool.true)) || ((Decidable.decide ((Int.toNat x26.2.1) < (List.length x26.1.1))) && ((Decidable.decide ((Int.toNat x26.2.2.1) < (List.length (List.getD x26.1.1 (Int.toNat x26.2.1) ([] : List Bool))))) && Bool.true))) = Bool.true) then
  (lt (List.getD (List.getD x26.1.1 (Int.toNat x26.2.1) ([] : List Bool)) (Int.toNat x26.2.2.1) Bool.false) fun (x30 : Bool) =>
  (lt (Bool.not x30) fun (x31 : Bool) =>
  (lt (if (x29 = Bool.true) then
  x31
  else Bool.false) fun (x32 : Bool) =>
  (if (x32 = Bool.true) then
  (Option.some ((Bool.false, ()), ()))
  else (shr (d4_K12 x28) (fun (x33 : ((((List (List Bool)) × ((List (List Bool)) × (IM × Unit))) × (Int × (Int × (Int × (Int × Unit))))) → (Option ((Bool × Unit) × Unit)))) => (loopN (d4_L14 x33) x0 ((x26.1.1, (x26.1.2.1, (x26.1.2.2.1, ()))), ((0 : Int), (x26.2.1, (x26.2.2.1, (x26.2.2.2.1, (x26.2.2.2.2.1, ())))))))))))))
  else (Option.none))
  else (Option.none))
  else (Option.none))
  else (Option.none)))
  else (Option.none))
  else (Option.none))
  else (Option.none))
  else (Option.none))))
  else (x24 ((x26.1.1, (x26.1.2.1, (x26.1.2.2.1, ()))), (x26.2.2.2.1, (x26.2.2.2.2.1, (x26.2.1, ())))))))))
def d4_L16 (x0 : Nat) (x11 : ((((List (List Bool)) × ((List (List Bool)) × (IM × Unit))) × (Int × (Int × Unit))) → (Option ((Bool × Unit) × Unit)))) : (((((List (List Bool)) × ((List (List Bool)) × (IM × Unit))) × (Int × (Int × (Int × Unit)))) → (Option ((Bool × Unit) × Unit))) → ((((List (List Bool)) × ((List (List Bool)) × (IM × Unit))) × (Int × (Int × (Int × Unit)))) → (Option ((Bool × Unit) × Unit)))) :=
  (fun (x12 : ((((List (List Bool)) × ((List (List Bool)) × (IM × Unit))) × (Int × (Int × (Int × Unit)))) → (Option ((Bool × Unit) × Unit)))) => (fun (x13 : (((List (List Bool)) × ((List (List Bool)) × (IM × Unit))) × (Int × (Int × (Int × Unit))))) => (lt (Decidable.decide (x13.2.1 < x13.2.2.1)) fun (x14 : Bool) =>
  (if (x14 = Bool.true) then
  (shr (d4_K9 x12) (fun (x15 : ((((List (List Bool)) × ((List (List Bool)) × (IM × Unit))) × (Int × (Int × (Int × Unit)))) → (Option ((Bool × Unit) × Unit)))) => (if (((Decidable.decide ((0 : Int) ≤ x13.2.1)) && (Decidable.decide (x13.2.1 < (((List.length x13.1.2.1) : Nat) : Int)))) = Bool.true) then
  (if (((Decidable.decide ((Int.toNat x13.2.1) < (List.length x13.1.2.1))) && Bool.true) = Bool.true) then
  (if (((Decidable.decide ((Int.toNat x13.2.1) < (List.length x13.1.2.1))) && Bool.true) = Bool.true) then
  (lt (((List.length (List.getD x13.1.2.1 (Int.toNat x13.2.1) ([] : List Bool))) : Nat) : Int) fun (x16 : Int) =>
  (lt (x16 != x13.2.2.1) fun (x17 : Bool) =>
  (if (((Bool.not ((x17 == Bool.false) && Bool.true)) || ((Decidable.decide ((0 : Int) ≤ x13.2.1)) && (Decidable.decide (x13.2.1 < (((List.length x13.1.1) : Nat) : Int))))) = Bool.true) then
  (if (((Bool.not ((x17 == Bool.false) && Bool.true)) || ((Decidable.decide ((Int.toNat x13.2.1) < (List.length x13.1.1))) && Bool.true)) = Bool.true) then
  (if (((Bool.not ((x17 == Bool.false) && Bool.true)) || ((Decidable.decide ((Int.toNat x13.2.1) < (List.length x13.1.1))) && Bool.true)) = Bool.true) then
  (lt (((List.length (List.getD x13.1.1 (Int.toNat x13.2.1) ([] : List Bool))) : Nat) : Int) fun (x18 : Int) =>
  (lt (x18 != x13.2.2.1) fun (x19 : Bool) =>
  (lt (if (x17 = Bool.true) then
  Bool.true
  else x19) fun (x20 : Bool) =>
  (if (((Bool.not ((x20 == Bool.false) && Bool.true)) || ((Decidable.decide ((0 : Int) ≤ x13.2.1)) && (Decidable.decide (x13.2.1 < (((List.length x13.1.1) : Nat) : Int))))) = Bool.true) then
  (if (((Bool.not ((x20 == Bool.false) && Bool.true)) || ((Decidable.decide ((Int.toNat x13.2.1) < (List.length x13.1.1))) && Bool.true)) = Bool.true) then
  (if (((Bool.not ((x20 == Bool.false) && Bool.true)) || (((Decidable.decide ((Int.toNat x13.2.1) < (List.length x13.1.1))) && Bool.true) && ((Decidable.decide ((0 : Int) ≤ x13.2.1)) && (Decidable.decide (x13.2.1 < (((List.length (List.getD x13.1.1 (Int.toNat x13.2.1) ([] : List Bool))) : Nat) : Int)))))) = Bool.true) then
  (if (((Bool.not ((x20 == Bool.false) && Bool.true)) || ((Decidable.decide ((Int.toNat x13.2.1) < (List.length x13.1.1))) && ((Decidable.decide ((Int.toNat x13.2.1) < (List.length (List.getD x13.1.1 (Int.toNat x13.2.1) ([] : List Bool))))) && Bool.true))) = Bool.true) then
  (lt (List.getD (List.getD x13.1.1 (Int.toNat x13.2.1) ([] : List Bool)) (Int.toNat x13.2.1) Bool.false) fun (x21 : Bool) =>
  (lt (Bool.not x21) fun (x22 : Bool) =>
  (lt (if (x20 = Bool.true) then
  Bool.true
  else x22) fun (x23 : Bool) =>
  (if (x23 = Bool.true) then
  (Option.some ((Bool.false, ()), ()))
  else (shr (d4_K10 x15) (fun (x24 : ((((List (List Bool)) × ((List (List Bool)) × (IM × Unit))) × (Int × (Int × (Int × Unit)))) → (Option ((Bool × Unit) × Unit)))) => (loopN (d4_L15 x0 x24) x0 ((x13.1.1, (x13.1.2.1, (x13.1.2.2.1, ()))), (x13.2.1, ((0 : Int), (x13.2.2.1, (x13.2.2.2.1, ()))))))))))))
  else (Option.none))
  else (Option.none))
  else (Option.none))
  else (Option.none)))))
  else (Option.none))
  else (Option.none))
  else (Option.none))))
  else (Option.none))
  else (Option.none))
  else (Option.none))))
  else (x11 ((x13.1.1, (x13.1.2.1, (x13.1.2.2.1, ()))), (x13.2.2.2.1, (x13.2.2.1, ()))))))))
def d4 : (Nat → ((IM × (Int × Unit)) → (Option ((Bool × Unit) × Unit)))) :=
  (fun (x0 : Nat) => (fun (x1 : (IM × (Int × Unit))) => (Option.bind (d6 x0 (x1.1, ())) fun (x2 : ((IM × Unit) × Unit)) =>
  (Option.bind (d8 x0 (x2.1.1, ())) fun (x3 : (((List (List Bool)) × Unit) × Unit)) =>
  (Option.bind (d9 x0 (x2.1.1, ())) fun (x4 : (((List (List Bool)) × Unit) × Unit)) =>
  (lt (((List.length x2.1.1.1) : Nat) : Int) fun (x5 : Int) =>
  (lt (((List.length x3.1.1) : Nat) : Int) fun (x6 : Int) =>
  (lt (x6 != x5) fun (x7 : Bool) =>
  (lt (((List.length x4.1.1) : Nat) : Int) fun (x8 : Int) =>
  (lt (x8 != x5) fun (x9 : Bool) =>
  (lt (if (x7 = Bool.true) then
  Bool.true
  else x9) fun (x10 : Bool) =>
  (if (x10 = Bool.true) then
  (Option.some ((Bool.false, ()), ()))
  else (shr (d4_K8 x0) (fun (x11 : ((((List (List Bool)) × ((List (List Bool)) × (IM × Unit))) × (Int × (Int × Unit))) → (Option ((Bool × Unit) × Unit)))) => (loopN (d4_L16 x0 x11) x0 ((x4.1.1, (x3.1.1, (x2.1.1, ()))), ((0 : Int), (x5, (x1.2.1, ())))))))))))))))))))
theorem k4 : c_fn Tryd.prog [(6, ⟨s6, d6⟩), (8, ⟨s8, d8⟩), (9, ⟨s9, d9⟩), (23, ⟨s23, d23⟩), (12, ⟨s12, d12⟩), (24, ⟨s24, d24⟩)] Tryd.f4 s4 h4 = some d4 := by kernel_rfl
end Go.Proofs.YtledeaknnihlmaaDoor.L
