import Derived.Test.YtledeaknnihlmaaLiftC
import Derived.Test.YtledeaknnihlmaaProg
import Derived.Lib.SlicesCompact
namespace Go.Proofs.Ytledeaknnihlmaa.L
open Go Go.Lift Go.Proofs
set_option maxRecDepth 100000
set_option linter.unusedVariables false
abbrev IS : Type := (Int × (Int × (Int × (Int × (Int × Unit)))))
abbrev SV : Type := (Int × (Int × (Int × (Int × Unit))))
abbrev I2 : Type := (Int × (Int × Unit))
abbrev PC : Type := (Int × (Int × (Int × (Int × (Int × (Bool × Unit))))))
abbrev PA : Type := (SV × (Int × (Int × ((List Int) × ((List IS) × ((List PC) × (Int × ((List Int) × ((List I2) × ((List Bool) × ((List I2) × Unit)))))))))))
abbrev PO : Type := (Int × (Int × (Bool × (Int × I2))))
abbrev CH : Type := (Int × (Int × ((List Int) × I2)))
abbrev IM : Type := ((List PA) × ((List PO) × ((List CH) × Unit)))
abbrev IN : Type := (Int × (Int × (Int × ((List Int) × Unit))))
abbrev WP : Type := (SV × (Int × (Int × (((List Int) × Nat) × (((List IS) × Nat) × (((List PC) × Nat) × (Int × ((List Int) × (((List I2) × Nat) × (((List Bool) × Nat) × (((List I2) × Nat) × Unit)))))))))))
abbrev WC : Type := (Int × (Int × (((List Int) × Nat) × I2)))
abbrev WI : Type := (((List WP) × Nat) × (((List PO) × Nat) × (((List WC) × Nat) × Unit)))
abbrev WN : Type := (Int × (Int × (Int × (((List Int) × Nat) × Unit))))
def ks0 : List (TypeId × Kt) := []
def ksW : List (TypeId × Kt) := [(40, (.win (.sl 3 (.int .i64)))), (45, (.win (.sl 2 (.int .i64)))), (46, (.win (.sl 76 (.pair (.int .u8) (.pair (.int .u8) (.pair (.int .u8) (.pair (.int .u8) (.pair (.int .i32) .unit)))))))), (47, (.win (.sl 78 (.pair (.int .i64) (.pair (.int .i64) (.pair (.int .i64) (.pair (.int .i64) (.pair (.int .i64) (.pair .bool .unit))))))))), (49, (.win (.sl 80 (.pair (.int .i64) (.pair (.int .i64) .unit))))), (50, (.win (.sl 4 .bool))), (51, (.win (.sl 82 (.pair (.int .i64) (.pair (.int .i64) .unit))))), (22, (.win (.sl 53 (.pair (.pair (.int .i64) (.pair (.int .i64) (.pair (.int .i64) (.pair (.int .i64) .unit)))) (.pair (.int .i64) (.pair (.int .i64) (.pair (.win (.sl 2 (.int .i64))) (.pair (.win (.sl 76 (.pair (.int .u8) (.pair (.int .u8) (.pair (.int .u8) (.pair (.int .u8) (.pair (.int .i32) .unit))))))) (.pair (.win (.sl 78 (.pair (.int .i64) (.pair (.int .i64) (.pair (.int .i64) (.pair (.int .i64) (.pair (.int .i64) (.pair .bool .unit)))))))) (.pair (.int .i64) (.pair (.arr 8 (.int .i64)) (.pair (.win (.sl 80 (.pair (.int .i64) (.pair (.int .i64) .unit)))) (.pair (.win (.sl 4 .bool)) (.pair (.win (.sl 82 (.pair (.int .i64) (.pair (.int .i64) .unit)))) .unit)))))))))))))), (23, (.win (.sl 56 (.pair (.int .i64) (.pair (.int .i64) (.pair .bool (.pair (.int .i64) (.pair (.int .i64) (.pair (.int .i64) .unit))))))))), (24, (.win (.sl 42 (.pair (.int .i64) (.pair (.int .i64) (.pair (.win (.sl 3 (.int .i64))) (.pair (.int .i64) (.pair (.int .i64) .unit)))))))), (27, (.win (.sl 66 (.pair (.int .i64) (.pair (.int .i64) (.pair (.int .i64) (.pair (.win (.sl 2 (.int .i64))) .unit)))))))]
abbrev kIS : Kt := (.pair (.int .u8) (.pair (.int .u8) (.pair (.int .u8) (.pair (.int .u8) (.pair (.int .i32) .unit)))))
abbrev kSV : Kt := (.pair (.int .i64) (.pair (.int .i64) (.pair (.int .i64) (.pair (.int .i64) .unit))))
abbrev kI2 : Kt := (.pair (.int .i64) (.pair (.int .i64) .unit))
abbrev kPC : Kt := (.pair (.int .i64) (.pair (.int .i64) (.pair (.int .i64) (.pair (.int .i64) (.pair (.int .i64) (.pair .bool .unit))))))
abbrev kPA : Kt := (.pair kSV (.pair (.int .i64) (.pair (.int .i64) (.pair (.sl 2 (.int .i64)) (.pair (.sl 76 kIS) (.pair (.sl 78 kPC) (.pair (.int .i64) (.pair (.arr 8 (.int .i64)) (.pair (.sl 80 kI2) (.pair (.sl 4 .bool) (.pair (.sl 82 kI2) .unit)))))))))))
abbrev kPO : Kt := (.pair (.int .i64) (.pair (.int .i64) (.pair .bool (.pair (.int .i64) kI2))))
abbrev kCH : Kt := (.pair (.int .i64) (.pair (.int .i64) (.pair (.sl 3 (.int .i64)) kI2)))
abbrev kIM : Kt := (.pair (.sl 53 kPA) (.pair (.sl 56 kPO) (.pair (.sl 42 kCH) .unit)))
abbrev kIN : Kt := (.pair (.int .i64) (.pair (.int .i64) (.pair (.int .i64) (.pair (.sl 2 (.int .i64)) .unit))))
abbrev kWP : Kt := (.pair kSV (.pair (.int .i64) (.pair (.int .i64) (.pair (.win (.sl 2 (.int .i64))) (.pair (.win (.sl 76 kIS)) (.pair (.win (.sl 78 kPC)) (.pair (.int .i64) (.pair (.arr 8 (.int .i64)) (.pair (.win (.sl 80 kI2)) (.pair (.win (.sl 4 .bool)) (.pair (.win (.sl 82 kI2)) .unit)))))))))))
abbrev kWC : Kt := (.pair (.int .i64) (.pair (.int .i64) (.pair (.win (.sl 3 (.int .i64))) kI2)))
abbrev kWI : Kt := (.pair (.win (.sl 53 kWP)) (.pair (.win (.sl 56 kPO)) (.pair (.win (.sl 42 kWC)) .unit)))
abbrev kWN : Kt := (.pair (.int .i64) (.pair (.int .i64) (.pair (.int .i64) (.pair (.win (.sl 2 (.int .i64))) .unit))))

/-- bulkhead/bulkheadlaw24.trimmed -/
def s4 : Sig := ⟨[(kWI, .val)], [(kWI, (.own (.pr .sh (.pr .sh (.pr (.ow .sh) .sh)))))]⟩
 def h4 : Hint := (.seq .leaf
   (.seq (.seq .leaf
   (.cond (some ⟨[((.ptr 26 kWI), (.ow (.pr .sh .sh)), (1, 0)), ((.ptr 26 kWI), (.ow (.pr (.ow (.pr .sh (.pr .sh (.pr .sh (.pr (.ow .sh) (.pr (.ow .sh) (.pr (.ow .sh) (.pr .sh (.pr .sh (.pr (.ow .sh) (.pr (.ow .sh) (.pr (.ow .sh) .sh)))))))))))) (.pr (.ow .sh) (.pr (.ow (.pr .sh (.pr .sh (.pr (.ow .sh) .sh)))) .sh)))), (2, 0))], [((1, 0), (.own 0)), ((2, 0), (.own 1))]⟩)
     .leaf
     .leaf))
   (.seq (.seq .leaf
   (.cond (some ⟨[((.ptr 26 kWI), (.ow (.pr .sh (.pr .sh .sh))), (1, 0)), ((.ptr 26 kWI), (.ow (.pr (.ow (.pr .sh (.pr .sh (.pr .sh (.pr (.ow .sh) (.pr (.ow .sh) (.pr (.ow .sh) (.pr .sh (.pr .sh (.pr (.ow .sh) (.pr (.ow .sh) (.pr (.ow .sh) .sh)))))))))))) (.pr (.ow .sh) (.pr (.ow (.pr .sh (.pr .sh (.pr (.ow .sh) .sh)))) .sh)))), (2, 0))], [((1, 0), (.own 0)), ((2, 0), (.own 1))]⟩)
     .leaf
     .leaf))
   (.seq .leaf
   (.seq (.seq .leaf
   (.block ⟨[((.ptr 26 kWI), (.ow (.pr (.ow (.pr .sh (.pr .sh (.pr .sh (.pr (.ow .sh) (.pr (.ow .sh) (.pr (.ow .sh) (.pr .sh (.pr .sh (.pr (.ow .sh) (.pr (.ow .sh) (.pr (.ow .sh) .sh)))))))))))) (.pr (.ow .sh) (.pr (.ow (.pr .sh (.pr .sh (.pr (.ow .sh) .sh)))) .sh)))), (2, 0)), ((.ptr 26 kWI), (.ow (.pr .sh (.pr .sh .sh))), (1, 0)), ((.win (.sl 42 kWC)), (.ow .sh), (3, 0))], [((2, 0), (.own 0)), ((1, 0), (.own 1)), ((3, 0), (.own 2))]⟩ true
     (.loop ⟨[((.win (.sl 42 kWC)), (.ow .sh), (3, 0)), ((.ptr 26 kWI), (.ow (.pr .sh (.pr .sh .sh))), (1, 0)), ((.ptr 26 kWI), (.ow (.pr (.ow (.pr .sh (.pr .sh (.pr .sh (.pr (.ow .sh) (.pr (.ow .sh) (.pr (.ow .sh) (.pr .sh (.pr .sh (.pr (.ow .sh) (.pr (.ow .sh) (.pr (.ow .sh) .sh)))))))))))) (.pr (.ow .sh) (.pr (.ow (.pr .sh (.pr .sh (.pr (.ow .sh) .sh)))) .sh)))), (2, 0))], [((4, 0), (.val (.int .i64))), ((3, 0), (.own 0)), ((1, 0), (.own 1)), ((2, 0), (.own 2))]⟩
       (.seq (.seq .leaf
       (.cond none
         .leaf
         .leaf))
       (.seq (.block ⟨[((.win (.sl 42 kWC)), (.ow .sh), (3, 0)), ((.ptr 26 kWI), (.ow (.pr .sh (.pr .sh .sh))), (1, 0)), ((.ptr 26 kWI), (.ow (.pr (.ow (.pr .sh (.pr .sh (.pr .sh (.pr (.ow .sh) (.pr (.ow .sh) (.pr (.ow .sh) (.pr .sh (.pr .sh (.pr (.ow .sh) (.pr (.ow .sh) (.pr (.ow .sh) .sh)))))))))))) (.pr (.ow .sh) (.pr (.ow (.pr .sh (.pr .sh (.pr (.ow .sh) .sh)))) .sh)))), (2, 0))], [((3, 0), (.own 0)), ((1, 0), (.own 1)), ((2, 0), (.own 2)), ((4, 0), (.val (.int .i64)))]⟩ true
         (.seq .leaf
         (.seq (.seq .leaf
         (.cond (some ⟨[((.ptr 26 kWI), (.ow (.pr .sh (.pr .sh .sh))), (1, 0)), ((.ptr 26 kWI), (.ow (.pr (.ow (.pr .sh (.pr .sh (.pr .sh (.pr (.ow .sh) (.pr (.ow .sh) (.pr (.ow .sh) (.pr .sh (.pr .sh (.pr (.ow .sh) (.pr (.ow .sh) (.pr (.ow .sh) .sh)))))))))))) (.pr (.ow .sh) (.pr (.ow (.pr .sh (.pr .sh (.pr (.ow .sh) .sh)))) .sh)))), (2, 0)), ((.ptr 42 kWC), (.ow (.pr .sh (.pr .sh (.pr .sh .sh)))), (5, 0)), ((.win (.sl 42 kWC)), (.ow .sh), (3, 0))], [((1, 0), (.own 0)), ((2, 0), (.own 1)), ((4, 0), (.val (.int .i64))), ((5, 0), (.own 2)), ((3, 0), (.own 3))]⟩)
           .leaf
           .leaf))
         .leaf)))
       .leaf)))))
   (.seq .leaf
   (.seq .leaf
   .leaf)))))))
def d4_K1  : (((WI × (WI × (((List WC) × Nat) × Unit))) × Unit) → (Option ((WI × Unit) × Unit))) :=
  (fun (x8 : ((WI × (WI × (((List WC) × Nat) × Unit))) × Unit)) => (Option.some (((x8.1.2.1.1, (x8.1.2.1.2.1, (x8.1.2.2.1, x8.1.2.1.2.2.2))), ()), ())))
def d4_K2 (x9 : (((((List WC) × Nat) × (WI × (WI × Unit))) × (Int × Unit)) → (Option ((WI × Unit) × Unit)))) : (((((List WC) × Nat) × (WI × (WI × Unit))) × (Int × Unit)) → (Option ((WI × Unit) × Unit))) :=
  (fun (x15 : ((((List WC) × Nat) × (WI × (WI × Unit))) × (Int × Unit))) => (x9 ((x15.1.1, (x15.1.2.1, (x15.1.2.2.1, ()))), ((Go.IntKind.wrap Go.IntKind.i64 (x15.2.1 + (1 : Int))), ()))))
def d4_K3 (x15 : (((((List WC) × Nat) × (WI × (WI × Unit))) × (Int × Unit)) → (Option ((WI × Unit) × Unit)))) : (((WI × (WI × (WC × (((List WC) × Nat) × Unit)))) × (Int × Unit)) → (Option ((WI × Unit) × Unit))) :=
  (fun (x19 : ((WI × (WI × (WC × (((List WC) × Nat) × Unit)))) × (Int × Unit))) => (lt (x19.1.2.2.1 :: ([] : List WC)) fun (x20 : (List WC)) =>
  (if (((Decidable.decide (x19.1.2.2.2.1.2 = (List.length x19.1.2.2.2.1.1))) && (Go.Lift.appFits (List.length x19.1.2.2.2.1.1) (List.length x20) (56 : Nat))) = Bool.true) then
  (x15 ((((x19.1.2.2.2.1.1 ++ x20), (List.length (x19.1.2.2.2.1.1 ++ x20))), (x19.1.1, (x19.1.2.1, ()))), (x19.2.1, ())))
  else (Option.none))))
def d4_L4 (x8 : (((WI × (WI × (((List WC) × Nat) × Unit))) × Unit) → (Option ((WI × Unit) × Unit)))) : ((((((List WC) × Nat) × (WI × (WI × Unit))) × (Int × Unit)) → (Option ((WI × Unit) × Unit))) → (((((List WC) × Nat) × (WI × (WI × Unit))) × (Int × Unit)) → (Option ((WI × Unit) × Unit)))) :=
  (fun (x9 : (((((List WC) × Nat) × (WI × (WI × Unit))) × (Int × Unit)) → (Option ((WI × Unit) × Unit)))) => (fun (x10 : ((((List WC) × Nat) × (WI × (WI × Unit))) × (Int × Unit))) => (lt (((List.length (List.take x10.1.2.1.2.2.1.2 x10.1.2.1.2.2.1.1)) : Nat) : Int) fun (x11 : Int) =>
  (lt (Decidable.decide (x10.2.1 < x11)) fun (x12 : Bool) =>
  (lt (Decidable.decide (x10.2.1 < (70 : Int))) fun (x13 : Bool) =>
  (lt (if (x12 = Bool.true) then
  x13
  else Bool.false) fun (x14 : Bool) =>
  (if (x14 = Bool.true) then
  (shr (d4_K2 x9) (fun (x15 : (((((List WC) × Nat) × (WI × (WI × Unit))) × (Int × Unit)) → (Option ((WI × Unit) × Unit)))) => (if (((Decidable.decide ((0 : Int) ≤ x10.2.1)) && (Decidable.decide (x10.2.1 < (((List.length (List.take x10.1.2.1.2.2.1.2 x10.1.2.1.2.2.1.1)) : Nat) : Int)))) = Bool.true) then
  (lt (List.getD (List.take x10.1.2.1.2.2.1.2 x10.1.2.1.2.2.1.1) (Int.toNat x10.2.1) ((0 : Int), ((0 : Int), ((([] : List Int), (0 : Nat)), ((0 : Int), ((0 : Int), ())))))) fun (x16 : WC) =>
  (lt (((List.length (List.take x16.2.2.1.2 x16.2.2.1.1)) : Nat) : Int) fun (x17 : Int) =>
  (lt (Decidable.decide (x17 > (70 : Int))) fun (x18 : Bool) =>
  (shr (d4_K3 x15) (fun (x19 : (((WI × (WI × (WC × (((List WC) × Nat) × Unit)))) × (Int × Unit)) → (Option ((WI × Unit) × Unit)))) => (if (x18 = Bool.true) then
  (if (((Decidable.decide ((0 : Int) ≤ (70 : Int))) && (Decidable.decide ((Int.toNat (70 : Int)) ≤ (List.length x16.2.2.1.1)))) = Bool.true) then
  (x19 ((x10.1.2.1, (x10.1.2.2.1, ((x16.1, (x16.2.1, ((x16.2.2.1.1, (Int.toNat (70 : Int))), x16.2.2.2))), (x10.1.1, ())))), (x10.2.1, ())))
  else (Option.none))
  else (x19 ((x10.1.2.1, (x10.1.2.2.1, (x16, (x10.1.1, ())))), (x10.2.1, ())))))))))
  else (Option.none))))
  else (x8 ((x10.1.2.2.1, (x10.1.2.1, (x10.1.1, ()))), ())))))))))
def d4_K5 (x0 : Nat) : (((WI × (WI × Unit)) × Unit) → (Option ((WI × Unit) × Unit))) :=
  (fun (x7 : ((WI × (WI × Unit)) × Unit)) => (shr d4_K1 (fun (x8 : (((WI × (WI × (((List WC) × Nat) × Unit))) × Unit) → (Option ((WI × Unit) × Unit)))) => (loopN (d4_L4 x8) x0 (((([] : List WC), (0 : Nat)), (x7.1.1, (x7.1.2.1, ()))), ((0 : Int), ()))))))
def d4_K6 (x0 : Nat) : (((WI × (WI × Unit)) × Unit) → (Option ((WI × Unit) × Unit))) :=
  (fun (x4 : ((WI × (WI × Unit)) × Unit)) => (lt (((List.length (List.take x4.1.1.2.1.2 x4.1.1.2.1.1)) : Nat) : Int) fun (x5 : Int) =>
  (lt (Decidable.decide (x5 > (70 : Int))) fun (x6 : Bool) =>
  (shr (d4_K5 x0) (fun (x7 : (((WI × (WI × Unit)) × Unit) → (Option ((WI × Unit) × Unit)))) => (if (x6 = Bool.true) then
  (if (((Decidable.decide ((0 : Int) ≤ (70 : Int))) && (Decidable.decide ((Int.toNat (70 : Int)) ≤ (List.length x4.1.1.2.1.1)))) = Bool.true) then
  (x7 (((x4.1.1.1, ((x4.1.1.2.1.1, (Int.toNat (70 : Int))), x4.1.1.2.2)), (x4.1.2.1, ())), ()))
  else (Option.none))
  else (x7 ((x4.1.1, (x4.1.2.1, ())), ()))))))))
def d4 : (Nat → ((WI × Unit) → (Option ((WI × Unit) × Unit)))) :=
  (fun (x0 : Nat) => (fun (x1 : (WI × Unit)) => (lt (((List.length (List.take x1.1.1.2 x1.1.1.1)) : Nat) : Int) fun (x2 : Int) =>
  (lt (Decidable.decide (x2 > (40 : Int))) fun (x3 : Bool) =>
  (shr (d4_K6 x0) (fun (x4 : (((WI × (WI × Unit)) × Unit) → (Option ((WI × Unit) × Unit)))) => (if (x3 = Bool.true) then
  (if (((Decidable.decide ((0 : Int) ≤ (40 : Int))) && (Decidable.decide ((Int.toNat (40 : Int)) ≤ (List.length x1.1.1.1)))) = Bool.true) then
  (x4 ((((x1.1.1.1, (Int.toNat (40 : Int))), x1.1.2), (((([] : List WP), (0 : Nat)), ((([] : List PO), (0 : Nat)), ((([] : List WC), (0 : Nat)), ()))), ())), ()))
  else (Option.none))
  else (x4 ((x1.1, (((([] : List WP), (0 : Nat)), ((([] : List PO), (0 : Nat)), ((([] : List WC), (0 : Nat)), ()))), ())), ())))))))))
theorem k4 : c_fn Try.prog ⟨[], ksW⟩ Try.f4 s4 h4 = some d4 := by kernel_rfl
/-- bulkhead/bulkheadlaw24.partTwin -/
def s16 : Sig := ⟨[(kWP, .val)], [(kWP, (.own (.pr .sh (.pr .sh (.pr .sh (.pr (.ow .sh) (.pr (.ow .sh) (.pr (.ow .sh) (.pr .sh (.pr .sh (.pr (.ow .sh) (.pr (.ow .sh) (.pr (.ow .sh) .sh)))))))))))))]⟩
 def h16 : Hint := (.seq .leaf
   (.seq .leaf
   (.seq .leaf
   (.seq .leaf
   (.seq .leaf
   (.seq .leaf
   (.seq .leaf
   (.seq .leaf
   (.seq .leaf
   (.seq .leaf
   .leaf))))))))))
def d16 : (Nat → ((WP × Unit) → (Option ((WP × Unit) × Unit)))) :=
  (fun (x0 : Nat) => (fun (x1 : (WP × Unit)) => (lt (List.replicate (8 : Nat) (0 : Int)) fun (x2 : (List Int)) =>
  (lt (List.replicate (8 : Nat) (0 : Int)) fun (x3 : (List Int)) =>
  (if ((Bool.true && ((Decidable.decide ((0 : Nat) = (List.length ([] : List Int)))) && (Go.Lift.appFits (List.length ([] : List Int)) (List.length (List.take x1.1.2.2.2.1.2 x1.1.2.2.2.1.1)) (8 : Nat)))) = Bool.true) then
  (lt (([] : List Int) ++ (List.take x1.1.2.2.2.1.2 x1.1.2.2.2.1.1)) fun (x4 : (List Int)) =>
  (lt (List.length (([] : List Int) ++ (List.take x1.1.2.2.2.1.2 x1.1.2.2.2.1.1))) fun (x5 : Nat) =>
  (lt ((Neg.neg (77 : Int)) :: ([] : List Int)) fun (x6 : (List Int)) =>
  (if (((Decidable.decide (x5 = (List.length x4))) && (Go.Lift.appFits (List.length x4) (List.length x6) (8 : Nat))) = Bool.true) then
  (lt (x4 ++ x6) fun (x7 : (List Int)) =>
  (lt (List.length (x4 ++ x6)) fun (x8 : Nat) =>
  (lt (((List.length (List.take x1.1.2.2.2.1.2 x1.1.2.2.2.1.1)) : Nat) : Int) fun (x9 : Int) =>
  (if (((Decidable.decide ((0 : Int) ≤ x9)) && (Decidable.decide ((Int.toNat x9) ≤ (List.length x7)))) = Bool.true) then
  (lt (Int.toNat x9) fun (x10 : Nat) =>
  (if ((Bool.true && ((Decidable.decide ((0 : Nat) = (List.length ([] : List IS)))) && (Go.Lift.appFits (List.length ([] : List IS)) (List.length (List.take x1.1.2.2.2.2.1.2 x1.1.2.2.2.2.1.1)) (8 : Nat)))) = Bool.true) then
  (lt (([] : List IS) ++ (List.take x1.1.2.2.2.2.1.2 x1.1.2.2.2.2.1.1)) fun (x11 : (List IS)) =>
  (lt (List.length (([] : List IS) ++ (List.take x1.1.2.2.2.2.1.2 x1.1.2.2.2.2.1.1))) fun (x12 : Nat) =>
  (lt (Neg.neg (77 : Int)) fun (x13 : Int) =>
  (lt (((0 : Int), ((0 : Int), ((0 : Int), ((0 : Int), (x13, ()))))) :: ([] : List IS)) fun (x14 : (List IS)) =>
  (if (((Decidable.decide (x12 = (List.length x11))) && (Go.Lift.appFits (List.length x11) (List.length x14) (8 : Nat))) = Bool.true) then
  (lt (x11 ++ x14) fun (x15 : (List IS)) =>
  (lt (List.length (x11 ++ x14)) fun (x16 : Nat) =>
  (lt (((List.length (List.take x1.1.2.2.2.2.1.2 x1.1.2.2.2.2.1.1)) : Nat) : Int) fun (x17 : Int) =>
  (if (((Decidable.decide ((0 : Int) ≤ x17)) && (Decidable.decide ((Int.toNat x17) ≤ (List.length x15)))) = Bool.true) then
  (lt (Int.toNat x17) fun (x18 : Nat) =>
  (if ((Bool.true && ((Decidable.decide ((0 : Nat) = (List.length ([] : List PC)))) && (Go.Lift.appFits (List.length ([] : List PC)) (List.length (List.take x1.1.2.2.2.2.2.1.2 x1.1.2.2.2.2.2.1.1)) (48 : Nat)))) = Bool.true) then
  (lt (([] : List PC) ++ (List.take x1.1.2.2.2.2.2.1.2 x1.1.2.2.2.2.2.1.1)) fun (x19 : (List PC)) =>
  (lt (List.length (([] : List PC) ++ (List.take x1.1.2.2.2.2.2.1.2 x1.1.2.2.2.2.2.1.1))) fun (x20 : Nat) =>
  (lt (Neg.neg (77 : Int)) fun (x21 : Int) =>
  (lt ((x21, ((0 : Int), ((0 : Int), ((0 : Int), ((0 : Int), (Bool.false, ())))))) :: ([] : List PC)) fun (x22 : (List PC)) =>
  (if (((Decidable.decide (x20 = (List.length x19))) && (Go.Lift.appFits (List.length x19) (List.length x22) (48 : Nat))) = Bool.true) then
  (lt (x19 ++ x22) fun (x23 : (List PC)) =>
  (lt (List.length (x19 ++ x22)) fun (x24 : Nat) =>
  (lt (((List.length (List.take x1.1.2.2.2.2.2.1.2 x1.1.2.2.2.2.2.1.1)) : Nat) : Int) fun (x25 : Int) =>
  (if (((Decidable.decide ((0 : Int) ≤ x25)) && (Decidable.decide ((Int.toNat x25) ≤ (List.length x23)))) = Bool.true) then
  (lt (Int.toNat x25) fun (x26 : Nat) =>
  (if ((Bool.true && ((Decidable.decide ((0 : Nat) = (List.length ([] : List I2)))) && (Go.Lift.appFits (List.length ([] : List I2)) (List.length (List.take x1.1.2.2.2.2.2.2.2.2.1.2 x1.1.2.2.2.2.2.2.2.2.1.1)) (16 : Nat)))) = Bool.true) then
  (lt (([] : List I2) ++ (List.take x1.1.2.2.2.2.2.2.2.2.1.2 x1.1.2.2.2.2.2.2.2.2.1.1)) fun (x27 : (List I2)) =>
  (lt (List.length (([] : List I2) ++ (List.take x1.1.2.2.2.2.2.2.2.2.1.2 x1.1.2.2.2.2.2.2.2.2.1.1))) fun (x28 : Nat) =>
  (lt (Neg.neg (77 : Int)) fun (x29 : Int) =>
  (lt ((x29, ((0 : Int), ())) :: ([] : List I2)) fun (x30 : (List I2)) =>
  (if (((Decidable.decide (x28 = (List.length x27))) && (Go.Lift.appFits (List.length x27) (List.length x30) (16 : Nat))) = Bool.true) then
  (lt (x27 ++ x30) fun (x31 : (List I2)) =>
  (lt (List.length (x27 ++ x30)) fun (x32 : Nat) =>
  (lt (((List.length (List.take x1.1.2.2.2.2.2.2.2.2.1.2 x1.1.2.2.2.2.2.2.2.2.1.1)) : Nat) : Int) fun (x33 : Int) =>
  (if (((Decidable.decide ((0 : Int) ≤ x33)) && (Decidable.decide ((Int.toNat x33) ≤ (List.length x31)))) = Bool.true) then
  (lt (Int.toNat x33) fun (x34 : Nat) =>
  (if ((Bool.true && ((Decidable.decide ((0 : Nat) = (List.length ([] : List Bool)))) && (Go.Lift.appFits (List.length ([] : List Bool)) (List.length (List.take x1.1.2.2.2.2.2.2.2.2.2.1.2 x1.1.2.2.2.2.2.2.2.2.2.1.1)) (1 : Nat)))) = Bool.true) then
  (lt (([] : List Bool) ++ (List.take x1.1.2.2.2.2.2.2.2.2.2.1.2 x1.1.2.2.2.2.2.2.2.2.2.1.1)) fun (x35 : (List Bool)) =>
  (lt (List.length (([] : List Bool) ++ (List.take x1.1.2.2.2.2.2.2.2.2.2.1.2 x1.1.2.2.2.2.2.2.2.2.2.1.1))) fun (x36 : Nat) =>
  (if (((Decidable.decide (x36 = (List.length x35))) && (Go.Lift.appFits (List.length x35) (List.length (Bool.true :: ([] : List Bool))) (1 : Nat))) = Bool.true) then
  (lt (x35 ++ (Bool.true :: ([] : List Bool))) fun (x37 : (List Bool)) =>
  (lt (List.length (x35 ++ (Bool.true :: ([] : List Bool)))) fun (x38 : Nat) =>
  (lt (((List.length (List.take x1.1.2.2.2.2.2.2.2.2.2.1.2 x1.1.2.2.2.2.2.2.2.2.2.1.1)) : Nat) : Int) fun (x39 : Int) =>
  (if (((Decidable.decide ((0 : Int) ≤ x39)) && (Decidable.decide ((Int.toNat x39) ≤ (List.length x37)))) = Bool.true) then
  (lt (Int.toNat x39) fun (x40 : Nat) =>
  (if ((Bool.true && ((Decidable.decide ((0 : Nat) = (List.length ([] : List I2)))) && (Go.Lift.appFits (List.length ([] : List I2)) (List.length (List.take x1.1.2.2.2.2.2.2.2.2.2.2.1.2 x1.1.2.2.2.2.2.2.2.2.2.2.1.1)) (16 : Nat)))) = Bool.true) then
  (lt (([] : List I2) ++ (List.take x1.1.2.2.2.2.2.2.2.2.2.2.1.2 x1.1.2.2.2.2.2.2.2.2.2.2.1.1)) fun (x41 : (List I2)) =>
  (lt (List.length (([] : List I2) ++ (List.take x1.1.2.2.2.2.2.2.2.2.2.2.1.2 x1.1.2.2.2.2.2.2.2.2.2.2.1.1))) fun (x42 : Nat) =>
  (lt (Neg.neg (77 : Int)) fun (x43 : Int) =>
  (lt ((x43, ((0 : Int), ())) :: ([] : List I2)) fun (x44 : (List I2)) =>
  (if (((Decidable.decide (x42 = (List.length x41))) && (Go.Lift.appFits (List.length x41) (List.length x44) (16 : Nat))) = Bool.true) then
  (lt (x41 ++ x44) fun (x45 : (List I2)) =>
  (lt (List.length (x41 ++ x44)) fun (x46 : Nat) =>
  (lt (((List.length (List.take x1.1.2.2.2.2.2.2.2.2.2.2.1.2 x1.1.2.2.2.2.2.2.2.2.2.2.1.1)) : Nat) : Int) fun (x47 : Int) =>
  (if (((Decidable.decide ((0 : Int) ≤ x47)) && (Decidable.decide ((Int.toNat x47) ≤ (List.length x45)))) = Bool.true) then
  (Option.some (((x1.1.1, (x1.1.2.1, (x1.1.2.2.1, ((x7, x10), ((x15, x18), ((x23, x26), (x1.1.2.2.2.2.2.2.1, (x1.1.2.2.2.2.2.2.2.1, ((x31, x34), ((x37, x40), ((x45, (Int.toNat x47)), x1.1.2.2.2.2.2.2.2.2.2.2.2))))))))))), ()), ()))
  else (Option.none)))))
  else (Option.none))))))
  else (Option.none)))
  else (Option.none)))))
  else (Option.none))))
  else (Option.none)))
  else (Option.none)))))
  else (Option.none))))))
  else (Option.none)))
  else (Option.none)))))
  else (Option.none))))))
  else (Option.none)))
  else (Option.none)))))
  else (Option.none))))))
  else (Option.none)))
  else (Option.none)))))
  else (Option.none)))))
  else (Option.none))))))
theorem k16 : c_fn Try.prog ⟨[], ksW⟩ Try.f16 s16 h16 = some d16 := by kernel_rfl
/-- bulkhead/bulkheadlaw24.twin -/
def s5 : Sig := ⟨[(kWI, .val)], [(kWI, (.own (.pr (.ow (.pr .sh (.pr .sh (.pr .sh (.pr (.ow .sh) (.pr (.ow .sh) (.pr (.ow .sh) (.pr .sh (.pr .sh (.pr (.ow .sh) (.pr (.ow .sh) (.pr (.ow .sh) .sh)))))))))))) (.pr (.ow .sh) (.pr (.ow .sh) .sh)))))]⟩
 def h5 : Hint := (.seq .leaf
   (.seq .leaf
   (.seq (.seq .leaf
   (.block ⟨[((.ptr 26 kWI), (.ow (.pr (.ow (.pr .sh (.pr .sh (.pr .sh (.pr (.ow .sh) (.pr (.ow .sh) (.pr (.ow .sh) (.pr .sh (.pr .sh (.pr (.ow .sh) (.pr (.ow .sh) (.pr (.ow .sh) .sh)))))))))))) (.pr (.ow .sh) (.pr (.ow (.pr .sh (.pr .sh (.pr (.ow .sh) .sh)))) .sh)))), (3, 0)), ((.ptr 26 kWI), (.ow .sh), (1, 0)), ((.ptr 26 kWI), (.ow (.pr (.ow (.pr .sh (.pr .sh (.pr .sh (.pr (.ow .sh) (.pr (.ow .sh) (.pr (.ow .sh) (.pr .sh (.pr .sh (.pr (.ow .sh) (.pr (.ow .sh) (.pr (.ow .sh) .sh)))))))))))) (.pr (.ow .sh) (.pr (.ow (.pr .sh (.pr .sh (.pr (.ow .sh) .sh)))) .sh)))), (2, 0))], [((3, 0), (.own 0)), ((1, 0), (.own 1)), ((2, 0), (.own 2))]⟩ true
     (.loop ⟨[((.ptr 26 kWI), (.ow (.pr (.ow (.pr .sh (.pr .sh (.pr .sh (.pr (.ow .sh) (.pr (.ow .sh) (.pr (.ow .sh) (.pr .sh (.pr .sh (.pr (.ow .sh) (.pr (.ow .sh) (.pr (.ow .sh) .sh)))))))))))) (.pr (.ow .sh) (.pr (.ow (.pr .sh (.pr .sh (.pr (.ow .sh) .sh)))) .sh)))), (3, 0)), ((.ptr 26 kWI), (.ow .sh), (1, 0)), ((.ptr 26 kWI), (.ow (.pr (.ow (.pr .sh (.pr .sh (.pr .sh (.pr (.ow .sh) (.pr (.ow .sh) (.pr (.ow .sh) (.pr .sh (.pr .sh (.pr (.ow .sh) (.pr (.ow .sh) (.pr (.ow .sh) .sh)))))))))))) (.pr (.ow .sh) (.pr (.ow (.pr .sh (.pr .sh (.pr (.ow .sh) .sh)))) .sh)))), (2, 0))], [((4, 0), (.val (.int .i64))), ((3, 0), (.own 0)), ((1, 0), (.own 1)), ((2, 0), (.own 2))]⟩
       (.seq (.seq .leaf
       (.cond none
         .leaf
         .leaf))
       (.seq (.block ⟨[((.ptr 26 kWI), (.ow (.pr (.ow (.pr .sh (.pr .sh (.pr .sh (.pr (.ow .sh) (.pr (.ow .sh) (.pr (.ow .sh) (.pr .sh (.pr .sh (.pr (.ow .sh) (.pr (.ow .sh) (.pr (.ow .sh) .sh)))))))))))) (.pr (.ow .sh) (.pr (.ow (.pr .sh (.pr .sh (.pr (.ow .sh) .sh)))) .sh)))), (3, 0)), ((.ptr 26 kWI), (.ow .sh), (1, 0)), ((.ptr 26 kWI), (.ow (.pr (.ow (.pr .sh (.pr .sh (.pr .sh (.pr (.ow .sh) (.pr (.ow .sh) (.pr (.ow .sh) (.pr .sh (.pr .sh (.pr (.ow .sh) (.pr (.ow .sh) (.pr (.ow .sh) .sh)))))))))))) (.pr (.ow .sh) (.pr (.ow (.pr .sh (.pr .sh (.pr (.ow .sh) .sh)))) .sh)))), (2, 0))], [((3, 0), (.own 0)), ((1, 0), (.own 1)), ((2, 0), (.own 2)), ((4, 0), (.val (.int .i64)))]⟩ true
         (.seq .leaf
         .leaf))
       .leaf)))))
   (.seq .leaf
   (.seq .leaf
   (.seq .leaf
   (.seq (.seq .leaf
   (.block ⟨[((.ptr 26 kWI), (.ow (.pr (.ow (.pr .sh (.pr .sh (.pr .sh (.pr (.ow .sh) (.pr (.ow .sh) (.pr (.ow .sh) (.pr .sh (.pr .sh (.pr (.ow .sh) (.pr (.ow .sh) (.pr (.ow .sh) .sh)))))))))))) (.pr (.ow .sh) (.pr (.ow (.pr .sh (.pr .sh (.pr (.ow .sh) .sh)))) .sh)))), (2, 0)), ((.ptr 26 kWI), (.ow (.pr (.ow (.pr .sh (.pr .sh (.pr .sh (.pr (.ow .sh) (.pr (.ow .sh) (.pr (.ow .sh) (.pr .sh (.pr .sh (.pr (.ow .sh) (.pr (.ow .sh) (.pr (.ow .sh) .sh)))))))))))) (.pr (.ow .sh) (.pr (.ow (.pr .sh (.pr .sh (.pr (.ow .sh) .sh)))) .sh)))), (3, 0)), ((.ptr 26 kWI), (.ow .sh), (1, 0))], [((2, 0), (.own 0)), ((3, 0), (.own 1)), ((1, 0), (.own 2))]⟩ true
     (.loop ⟨[((.ptr 26 kWI), (.ow (.pr (.ow (.pr .sh (.pr .sh (.pr .sh (.pr (.ow .sh) (.pr (.ow .sh) (.pr (.ow .sh) (.pr .sh (.pr .sh (.pr (.ow .sh) (.pr (.ow .sh) (.pr (.ow .sh) .sh)))))))))))) (.pr (.ow .sh) (.pr (.ow (.pr .sh (.pr .sh (.pr (.ow .sh) .sh)))) .sh)))), (3, 0)), ((.ptr 26 kWI), (.ow .sh), (1, 0)), ((.ptr 26 kWI), (.ow (.pr (.ow (.pr .sh (.pr .sh (.pr .sh (.pr (.ow .sh) (.pr (.ow .sh) (.pr (.ow .sh) (.pr .sh (.pr .sh (.pr (.ow .sh) (.pr (.ow .sh) (.pr (.ow .sh) .sh)))))))))))) (.pr (.ow .sh) (.pr (.ow (.pr .sh (.pr .sh (.pr (.ow .sh) .sh)))) .sh)))), (2, 0))], [((6, 0), (.val (.int .i64))), ((3, 0), (.own 0)), ((1, 0), (.own 1)), ((2, 0), (.own 2))]⟩
       (.seq (.seq .leaf
       (.cond none
         .leaf
         .leaf))
       (.seq (.block ⟨[((.ptr 26 kWI), (.ow (.pr (.ow (.pr .sh (.pr .sh (.pr .sh (.pr (.ow .sh) (.pr (.ow .sh) (.pr (.ow .sh) (.pr .sh (.pr .sh (.pr (.ow .sh) (.pr (.ow .sh) (.pr (.ow .sh) .sh)))))))))))) (.pr (.ow .sh) (.pr (.ow (.pr .sh (.pr .sh (.pr (.ow .sh) .sh)))) .sh)))), (3, 0)), ((.ptr 26 kWI), (.ow .sh), (1, 0)), ((.ptr 26 kWI), (.ow (.pr (.ow (.pr .sh (.pr .sh (.pr .sh (.pr (.ow .sh) (.pr (.ow .sh) (.pr (.ow .sh) (.pr .sh (.pr .sh (.pr (.ow .sh) (.pr (.ow .sh) (.pr (.ow .sh) .sh)))))))))))) (.pr (.ow .sh) (.pr (.ow (.pr .sh (.pr .sh (.pr (.ow .sh) .sh)))) .sh)))), (2, 0))], [((3, 0), (.own 0)), ((1, 0), (.own 1)), ((2, 0), (.own 2)), ((6, 0), (.val (.int .i64)))]⟩ true
         (.seq .leaf
         (.seq .leaf
         (.seq .leaf
         (.seq .leaf
         .leaf)))))
       .leaf)))))
   (.seq .leaf
   (.seq .leaf
   .leaf)))))))))
def d5_K1  : (((WI × (WI × (WI × Unit))) × Unit) → (Option ((WI × Unit) × Unit))) :=
  (fun (x17 : ((WI × (WI × (WI × Unit))) × Unit)) => (lt (Neg.neg (77 : Int)) fun (x18 : Int) =>
  (lt (((0 : Int), ((0 : Int), ((([] : List Int), (0 : Nat)), (x18, ((0 : Int), ()))))) :: ([] : List WC)) fun (x19 : (List WC)) =>
  (if ((Bool.true && ((Decidable.decide (x17.1.2.1.2.2.1.2 = (List.length x17.1.2.1.2.2.1.1))) && (Go.Lift.appFits (List.length x17.1.2.1.2.2.1.1) (List.length x19) (56 : Nat)))) = Bool.true) then
  (lt (x17.1.2.1.2.2.1.1 ++ x19) fun (x20 : (List WC)) =>
  (lt (List.length (x17.1.2.1.2.2.1.1 ++ x19)) fun (x21 : Nat) =>
  (lt (((List.length (List.take x17.1.2.2.1.2.2.1.2 x17.1.2.2.1.2.2.1.1)) : Nat) : Int) fun (x22 : Int) =>
  (if (((Decidable.decide ((0 : Int) ≤ x22)) && (Decidable.decide ((Int.toNat x22) ≤ (List.length x20)))) = Bool.true) then
  (Option.some (((x17.1.2.1.1, (x17.1.2.1.2.1, ((x20, (Int.toNat x22)), x17.1.2.1.2.2.2))), ()), ()))
  else (Option.none)))))
  else (Option.none)))))
def d5_K2 (x18 : (((WI × (WI × (WI × Unit))) × (Int × Unit)) → (Option ((WI × Unit) × Unit)))) : (((WI × (WI × (WI × Unit))) × (Int × Unit)) → (Option ((WI × Unit) × Unit))) :=
  (fun (x22 : ((WI × (WI × (WI × Unit))) × (Int × Unit))) => (x18 ((x22.1.1, (x22.1.2.1, (x22.1.2.2.1, ()))), ((Go.IntKind.wrap Go.IntKind.i64 (x22.2.1 + (1 : Int))), ()))))
def d5_L3 (x17 : (((WI × (WI × (WI × Unit))) × Unit) → (Option ((WI × Unit) × Unit)))) : ((((WI × (WI × (WI × Unit))) × (Int × Unit)) → (Option ((WI × Unit) × Unit))) → (((WI × (WI × (WI × Unit))) × (Int × Unit)) → (Option ((WI × Unit) × Unit)))) :=
  (fun (x18 : (((WI × (WI × (WI × Unit))) × (Int × Unit)) → (Option ((WI × Unit) × Unit)))) => (fun (x19 : ((WI × (WI × (WI × Unit))) × (Int × Unit))) => (lt (((List.length (List.take x19.1.2.1.2.2.1.2 x19.1.2.1.2.2.1.1)) : Nat) : Int) fun (x20 : Int) =>
  (lt (Decidable.decide (x19.2.1 < x20)) fun (x21 : Bool) =>
  (if (x21 = Bool.true) then
  (shr (d5_K2 x18) (fun (x22 : (((WI × (WI × (WI × Unit))) × (Int × Unit)) → (Option ((WI × Unit) × Unit)))) => (if (((Decidable.decide ((0 : Int) ≤ x19.2.1)) && (Decidable.decide (x19.2.1 < (((List.length (List.take x19.1.2.1.2.2.1.2 x19.1.2.1.2.2.1.1)) : Nat) : Int)))) = Bool.true) then
  (lt (List.getD (List.take x19.1.2.1.2.2.1.2 x19.1.2.1.2.2.1.1) (Int.toNat x19.2.1) ((0 : Int), ((0 : Int), ((([] : List Int), (0 : Nat)), ((0 : Int), ((0 : Int), ())))))) fun (x23 : WC) =>
  (if ((Go.Lift.appFits (0 : Nat) (List.length (List.take x23.2.2.1.2 x23.2.2.1.1)) (8 : Nat)) = Bool.true) then
  (lt (List.take x23.2.2.1.2 x23.2.2.1.1) fun (x24 : (List Int)) =>
  (lt (List.length (List.take x23.2.2.1.2 x23.2.2.1.1)) fun (x25 : Nat) =>
  (lt ((Neg.neg (77 : Int)) :: ([] : List Int)) fun (x26 : (List Int)) =>
  (if (((Decidable.decide (x25 = (List.length x24))) && (Go.Lift.appFits (List.length x24) (List.length x26) (8 : Nat))) = Bool.true) then
  (lt (x24 ++ x26) fun (x27 : (List Int)) =>
  (lt (List.length (x24 ++ x26)) fun (x28 : Nat) =>
  (if (((Decidable.decide ((0 : Int) ≤ x19.2.1)) && (Decidable.decide (x19.2.1 < (((List.length (List.take x19.1.2.1.2.2.1.2 x19.1.2.1.2.2.1.1)) : Nat) : Int)))) = Bool.true) then
  (lt (List.getD (List.take x19.1.2.1.2.2.1.2 x19.1.2.1.2.2.1.1) (Int.toNat x19.2.1) ((0 : Int), ((0 : Int), ((([] : List Int), (0 : Nat)), ((0 : Int), ((0 : Int), ())))))).2.2.1 fun (x29 : ((List Int) × Nat)) =>
  (lt (((List.length (List.take x29.2 x29.1)) : Nat) : Int) fun (x30 : Int) =>
  (if (((Decidable.decide ((0 : Int) ≤ x30)) && (Decidable.decide ((Int.toNat x30) ≤ (List.length x27)))) = Bool.true) then
  (lt (Int.toNat x30) fun (x31 : Nat) =>
  (lt ((x23.1, (x23.2.1, ((x27, x31), x23.2.2.2))) :: ([] : List WC)) fun (x32 : (List WC)) =>
  (if ((Bool.true && ((Decidable.decide (x19.1.1.2.2.1.2 = (List.length x19.1.1.2.2.1.1))) && (Go.Lift.appFits (List.length x19.1.1.2.2.1.1) (List.length x32) (56 : Nat)))) = Bool.true) then
  (x22 (((x19.1.1.1, (x19.1.1.2.1, (((x19.1.1.2.2.1.1 ++ x32), (List.length (x19.1.1.2.2.1.1 ++ x32))), x19.1.1.2.2.2))), (x19.1.2.1, (x19.1.2.2.1, ()))), (x19.2.1, ())))
  else (Option.none))))
  else (Option.none))))
  else (Option.none))))
  else (Option.none)))))
  else (Option.none)))
  else (Option.none))))
  else (x17 ((x19.1.2.2.1, (x19.1.1, (x19.1.2.1, ()))), ())))))))
def d5_K4 (x0 : Nat) : (((WI × (WI × (WI × Unit))) × Unit) → (Option ((WI × Unit) × Unit))) :=
  (fun (x2 : ((WI × (WI × (WI × Unit))) × Unit)) => (lt (Neg.neg (77 : Int)) fun (x3 : Int) =>
  (lt (List.replicate (8 : Nat) (0 : Int)) fun (x4 : (List Int)) =>
  (lt ((((0 : Int), ((0 : Int), ((0 : Int), ((0 : Int), ())))), (x3, ((0 : Int), ((([] : List Int), (0 : Nat)), ((([] : List IS), (0 : Nat)), ((([] : List PC), (0 : Nat)), ((0 : Int), (x4, ((([] : List I2), (0 : Nat)), ((([] : List Bool), (0 : Nat)), ((([] : List I2), (0 : Nat)), ()))))))))))) :: ([] : List WP)) fun (x5 : (List WP)) =>
  (if ((Bool.true && ((Decidable.decide (x2.1.1.1.2 = (List.length x2.1.1.1.1))) && (Go.Lift.appFits (List.length x2.1.1.1.1) (List.length x5) (264 : Nat)))) = Bool.true) then
  (lt (x2.1.1.1.1 ++ x5) fun (x6 : (List WP)) =>
  (lt (List.length (x2.1.1.1.1 ++ x5)) fun (x7 : Nat) =>
  (lt (((List.length (List.take x2.1.2.1.1.2 x2.1.2.1.1.1)) : Nat) : Int) fun (x8 : Int) =>
  (if (((Decidable.decide ((0 : Int) ≤ x8)) && (Decidable.decide ((Int.toNat x8) ≤ (List.length x6)))) = Bool.true) then
  (lt (Int.toNat x8) fun (x9 : Nat) =>
  (if ((Bool.true && ((Decidable.decide (x2.1.1.2.1.2 = (List.length x2.1.1.2.1.1))) && (Go.Lift.appFits (List.length x2.1.1.2.1.1) (List.length (List.take x2.1.2.1.2.1.2 x2.1.2.1.2.1.1)) (48 : Nat)))) = Bool.true) then
  (lt (x2.1.1.2.1.1 ++ (List.take x2.1.2.1.2.1.2 x2.1.2.1.2.1.1)) fun (x10 : (List PO)) =>
  (lt (List.length (x2.1.1.2.1.1 ++ (List.take x2.1.2.1.2.1.2 x2.1.2.1.2.1.1))) fun (x11 : Nat) =>
  (lt (Neg.neg (77 : Int)) fun (x12 : Int) =>
  (lt (((0 : Int), ((0 : Int), (Bool.false, (x12, ((0 : Int), ((0 : Int), ())))))) :: ([] : List PO)) fun (x13 : (List PO)) =>
  (if ((Bool.true && ((Decidable.decide (x11 = (List.length x10))) && (Go.Lift.appFits (List.length x10) (List.length x13) (48 : Nat)))) = Bool.true) then
  (lt (x10 ++ x13) fun (x14 : (List PO)) =>
  (lt (List.length (x10 ++ x13)) fun (x15 : Nat) =>
  (lt (((List.length (List.take x2.1.2.1.2.1.2 x2.1.2.1.2.1.1)) : Nat) : Int) fun (x16 : Int) =>
  (if (((Decidable.decide ((0 : Int) ≤ x16)) && (Decidable.decide ((Int.toNat x16) ≤ (List.length x14)))) = Bool.true) then
  (shr d5_K1 (fun (x17 : (((WI × (WI × (WI × Unit))) × Unit) → (Option ((WI × Unit) × Unit)))) => (loopN (d5_L3 x17) x0 ((((x6, x9), ((x14, (Int.toNat x16)), x2.1.1.2.2)), (x2.1.2.1, (x2.1.2.2.1, ()))), ((0 : Int), ())))))
  else (Option.none)))))
  else (Option.none))))))
  else (Option.none)))
  else (Option.none)))))
  else (Option.none))))))
def d5_K5 (x3 : (((WI × (WI × (WI × Unit))) × (Int × Unit)) → (Option ((WI × Unit) × Unit)))) : (((WI × (WI × (WI × Unit))) × (Int × Unit)) → (Option ((WI × Unit) × Unit))) :=
  (fun (x7 : ((WI × (WI × (WI × Unit))) × (Int × Unit))) => (x3 ((x7.1.1, (x7.1.2.1, (x7.1.2.2.1, ()))), ((Go.IntKind.wrap Go.IntKind.i64 (x7.2.1 + (1 : Int))), ()))))
def d5_L6 (x0 : Nat) (x2 : (((WI × (WI × (WI × Unit))) × Unit) → (Option ((WI × Unit) × Unit)))) : ((((WI × (WI × (WI × Unit))) × (Int × Unit)) → (Option ((WI × Unit) × Unit))) → (((WI × (WI × (WI × Unit))) × (Int × Unit)) → (Option ((WI × Unit) × Unit)))) :=
  (fun (x3 : (((WI × (WI × (WI × Unit))) × (Int × Unit)) → (Option ((WI × Unit) × Unit)))) => (fun (x4 : ((WI × (WI × (WI × Unit))) × (Int × Unit))) => (lt (((List.length (List.take x4.1.2.1.1.2 x4.1.2.1.1.1)) : Nat) : Int) fun (x5 : Int) =>
  (lt (Decidable.decide (x4.2.1 < x5)) fun (x6 : Bool) =>
  (if (x6 = Bool.true) then
  (shr (d5_K5 x3) (fun (x7 : (((WI × (WI × (WI × Unit))) × (Int × Unit)) → (Option ((WI × Unit) × Unit)))) => (if (((Decidable.decide ((0 : Int) ≤ x4.2.1)) && (Decidable.decide (x4.2.1 < (((List.length (List.take x4.1.2.1.1.2 x4.1.2.1.1.1)) : Nat) : Int)))) = Bool.true) then
  (lt (List.getD (List.take x4.1.2.1.1.2 x4.1.2.1.1.1) (Int.toNat x4.2.1) (((0 : Int), ((0 : Int), ((0 : Int), ((0 : Int), ())))), ((0 : Int), ((0 : Int), ((([] : List Int), (0 : Nat)), ((([] : List IS), (0 : Nat)), ((([] : List PC), (0 : Nat)), ((0 : Int), ((List.replicate (8 : Nat) (0 : Int)), ((([] : List I2), (0 : Nat)), ((([] : List Bool), (0 : Nat)), ((([] : List I2), (0 : Nat)), ())))))))))))) fun (x8 : WP) =>
  (Option.bind (d16 x0 (x8, ())) fun (x9 : ((WP × Unit) × Unit)) =>
  (lt (List.replicate (8 : Nat) (0 : Int)) fun (x10 : (List Int)) =>
  (lt (x9.1.1 :: ([] : List WP)) fun (x11 : (List WP)) =>
  (if ((Bool.true && ((Decidable.decide (x4.1.1.1.2 = (List.length x4.1.1.1.1))) && (Go.Lift.appFits (List.length x4.1.1.1.1) (List.length x11) (264 : Nat)))) = Bool.true) then
  (x7 (((((x4.1.1.1.1 ++ x11), (List.length (x4.1.1.1.1 ++ x11))), x4.1.1.2), (x4.1.2.1, (x4.1.2.2.1, ()))), (x4.2.1, ())))
  else (Option.none))))))
  else (Option.none))))
  else (x2 ((x4.1.1, (x4.1.2.1, (x4.1.2.2.1, ()))), ())))))))
def d5 : (Nat → ((WI × Unit) → (Option ((WI × Unit) × Unit)))) :=
  (fun (x0 : Nat) => (fun (x1 : (WI × Unit)) => (shr (d5_K4 x0) (fun (x2 : (((WI × (WI × (WI × Unit))) × Unit) → (Option ((WI × Unit) × Unit)))) => (loopN (d5_L6 x0 x2) x0 ((((([] : List WP), (0 : Nat)), ((([] : List PO), (0 : Nat)), ((([] : List WC), (0 : Nat)), ()))), (x1.1, (((([] : List WP), (0 : Nat)), ((([] : List PO), (0 : Nat)), ((([] : List WC), (0 : Nat)), ()))), ()))), ((0 : Int), ())))))))
theorem k5 : c_fn Try.prog ⟨[(16, ⟨s16, d16⟩)], ksW⟩ Try.f5 s5 h5 = some d5 := by kernel_rfl
/-- bulkhead/flow.there -/
def s36 : Sig := ⟨[(kIM, .val), ((.int .i64), .val)], [(.bool, .val)]⟩
 def h36 : Hint := (.seq .leaf
   (.seq .leaf
   .leaf))
def d36 : (Nat → ((IM × (Int × Unit)) → (Option ((Bool × Unit) × Unit)))) :=
  (fun (x0 : Nat) => (fun (x1 : (IM × (Int × Unit))) => (lt (Decidable.decide (x1.2.1 ≥ (1 : Int))) fun (x2 : Bool) =>
  (lt (((List.length x1.1.1) : Nat) : Int) fun (x3 : Int) =>
  (lt (Decidable.decide (x1.2.1 ≤ x3)) fun (x4 : Bool) =>
  (Option.some (((if (x2 = Bool.true) then
  x4
  else Bool.false), ()), ())))))))
theorem k36 : c_fn Try.prog ⟨[], ks0⟩ Try.f36 s36 h36 = some d36 := by kernel_rfl
/-- bulkhead/flow.square -/
def s62 : Sig := ⟨[((.int .i64), .val)], [((.sl 50 (.sl 4 .bool)), (.own (.ow (.ow .sh))))]⟩
 def h62 : Hint := (.seq .leaf
   (.seq .leaf
   (.seq (.seq .leaf
   (.block ⟨[((.sl 50 (.sl 4 .bool)), (.ow (.ow .sh)), (3, 0))], [((3, 0), (.own 0))]⟩ true
     (.loop ⟨[((.sl 50 (.sl 4 .bool)), (.ow (.ow .sh)), (3, 0))], [((9, 0), (.val (.int .i64))), ((0, 0), (.val (.int .i64))), ((3, 0), (.own 0)), ((8, 0), (.val (.int .i64)))]⟩
       (.seq .leaf
       (.seq (.cond none
         .leaf
         .leaf)
       (.seq (.block ⟨[((.sl 50 (.sl 4 .bool)), (.ow (.ow .sh)), (3, 0))], [((0, 0), (.val (.int .i64))), ((3, 0), (.own 0)), ((8, 0), (.val (.int .i64))), ((9, 0), (.val (.int .i64)))]⟩ true
         (.seq .leaf
         .leaf))
       .leaf))))))
   (.seq .leaf
   .leaf))))
def d62_K1  : ((((List (List Bool)) × Unit) × Unit) → (Option (((List (List Bool)) × Unit) × Unit))) :=
  (fun (x3 : (((List (List Bool)) × Unit) × Unit)) => (Option.some ((x3.1.1, ()), ())))
def d62_K2 (x4 : ((((List (List Bool)) × Unit) × (Int × I2)) → (Option (((List (List Bool)) × Unit) × Unit)))) : ((((List (List Bool)) × Unit) × (Int × I2)) → (Option (((List (List Bool)) × Unit) × Unit))) :=
  (fun (x7 : (((List (List Bool)) × Unit) × (Int × I2))) => (x4 ((x7.1.1, ()), ((Go.IntKind.wrap Go.IntKind.i64 (x7.2.2.2.1 + (1 : Int))), (x7.2.1, (x7.2.2.1, ()))))))
def d62_L3 (x3 : ((((List (List Bool)) × Unit) × Unit) → (Option (((List (List Bool)) × Unit) × Unit)))) : (((((List (List Bool)) × Unit) × (Int × I2)) → (Option (((List (List Bool)) × Unit) × Unit))) → ((((List (List Bool)) × Unit) × (Int × I2)) → (Option (((List (List Bool)) × Unit) × Unit)))) :=
  (fun (x4 : ((((List (List Bool)) × Unit) × (Int × I2)) → (Option (((List (List Bool)) × Unit) × Unit)))) => (fun (x5 : (((List (List Bool)) × Unit) × (Int × I2))) => (lt (Decidable.decide (x5.2.1 < x5.2.2.2.1)) fun (x6 : Bool) =>
  (if (x6 = Bool.true) then
  (shr (d62_K2 x4) (fun (x7 : ((((List (List Bool)) × Unit) × (Int × I2)) → (Option (((List (List Bool)) × Unit) × Unit)))) => (if (((((Decidable.decide ((0 : Int) ≤ x5.2.2.1)) && (Decidable.decide (x5.2.2.1 ≤ x5.2.2.1))) && (Decidable.decide (((((1 : Nat) : Nat) : Int) * x5.2.2.1) ≤ (281474976710656 : Int)))) && (Decidable.decide (x5.2.2.1 ≤ (9223372036854775807 : Int)))) = Bool.true) then
  (lt (List.replicate (Int.toNat x5.2.2.1) Bool.false) fun (x8 : (List Bool)) =>
  (if (((Decidable.decide ((0 : Int) ≤ x5.2.1)) && (Decidable.decide (x5.2.1 < (((List.length x5.1.1) : Nat) : Int)))) = Bool.true) then
  (if (((Decidable.decide ((Int.toNat x5.2.1) < (List.length x5.1.1))) && Bool.true) = Bool.true) then
  (x7 (((List.set x5.1.1 (Int.toNat x5.2.1) x8), ()), (x5.2.2.1, (x5.2.2.2.1, (x5.2.1, ())))))
  else (Option.none))
  else (Option.none)))
  else (Option.none))))
  else (x3 ((x5.1.1, ()), ()))))))
def d62 : (Nat → ((Int × Unit) → (Option (((List (List Bool)) × Unit) × Unit)))) :=
  (fun (x0 : Nat) => (fun (x1 : (Int × Unit)) => (if (((((Decidable.decide ((0 : Int) ≤ x1.1)) && (Decidable.decide (x1.1 ≤ x1.1))) && (Decidable.decide (((((24 : Nat) : Nat) : Int) * x1.1) ≤ (281474976710656 : Int)))) && (Decidable.decide (x1.1 ≤ (9223372036854775807 : Int)))) = Bool.true) then
  (lt (List.replicate (Int.toNat x1.1) ([] : List Bool)) fun (x2 : (List (List Bool))) =>
  (shr d62_K1 (fun (x3 : ((((List (List Bool)) × Unit) × Unit) → (Option (((List (List Bool)) × Unit) × Unit)))) => (loopN (d62_L3 x3) x0 ((x2, ()), ((0 : Int), (x1.1, ((((List.length x2) : Nat) : Int), ()))))))))
  else (Option.none))))
theorem k62 : c_fn Try.prog ⟨[], ks0⟩ Try.f62 s62 h62 = some d62 := by kernel_rfl
/-- bulkhead/channel.part -/
def s54 : Sig := ⟨[(kIM, .val), ((.int .i64), .val)], [((.int .i64), .val)]⟩
 def h54 : Hint := (.seq .leaf
   (.seq (.seq .leaf
   (.cond none
     (.seq .leaf
     .leaf)
     .leaf))
   (.seq .leaf
   .leaf)))
def d54 : (Nat → ((IM × (Int × Unit)) → (Option ((Int × Unit) × Unit)))) :=
  (fun (x0 : Nat) => (fun (x1 : (IM × (Int × Unit))) => (lt (Decidable.decide (x1.2.1 < (1 : Int))) fun (x2 : Bool) =>
  (lt (((List.length x1.1.2.1) : Nat) : Int) fun (x3 : Int) =>
  (lt (Decidable.decide (x1.2.1 > x3)) fun (x4 : Bool) =>
  (lt (if (x2 = Bool.true) then
  Bool.true
  else x4) fun (x5 : Bool) =>
  (if (x5 = Bool.true) then
  (Option.some (((0 : Int), ()), ()))
  else (lt (Go.IntKind.wrap Go.IntKind.i64 (x1.2.1 - (1 : Int))) fun (x6 : Int) =>
  (if (((Decidable.decide ((0 : Int) ≤ x6)) && (Decidable.decide (x6 < (((List.length x1.1.2.1) : Nat) : Int)))) = Bool.true) then
  (Option.some (((List.getD x1.1.2.1 (Int.toNat x6) ((0 : Int), ((0 : Int), (Bool.false, ((0 : Int), ((0 : Int), ((0 : Int), ()))))))).1, ()), ()))
  else (Option.none))))))))))
theorem k54 : c_fn Try.prog ⟨[], ks0⟩ Try.f54 s54 h54 = some d54 := by kernel_rfl
/-- slices.Sort[[]int,int] -/
def s55 : Sig := ⟨[((.sl 3 (.int .i64)), (.mut (.ow .sh)))], []⟩
def d55 (_ : Nat) (x : List Int × Unit) : Option (Unit × List Int × Unit) := if x.1.length < 4611686018427387904 then some ((), (x.1.mergeSort fun x y => decide (x ≤ y), ())) else none
/-- slices.Compact[[]int,int] -/
def s56 : Sig := ⟨[((.sl 3 (.int .i64)), (.tak (.ow .sh)))], [((.sl 3 (.int .i64)), (.own (.ow .sh)))]⟩
def d56 (_ : Nat) (x : List Int × Unit) : Option ((List Int × Unit) × Unit) := some ((Lib.compact x.1, ()), ())
/-- bulkhead/channel.Parts -/
def s43 : Sig := ⟨[(kIM, .val), ((.int .i64), .val)], [((.int .i64), .val), ((.sl 3 (.int .i64)), (.own (.ow .sh))), ((.int .i64), .val)]⟩
 def h43 : Hint := (.seq .leaf
   (.seq (.seq .leaf
   (.cond none
     (.seq .leaf
     .leaf)
     .leaf))
   (.seq .leaf
   (.seq .leaf
   (.seq (.seq .leaf
   (.block ⟨[((.ptr 42 kCH), (.ow .sh), (7, 0)), ((.ptr 26 kIM), (.ow .sh), (2, 0)), ((.sl 3 (.int .i64)), (.ow .sh), (8, 0))], [((7, 0), (.own 0)), ((2, 0), (.own 1)), ((8, 0), (.own 2))]⟩ true
     (.loop ⟨[((.ptr 26 kIM), (.ow .sh), (2, 0)), ((.sl 3 (.int .i64)), (.ow .sh), (8, 0)), ((.ptr 42 kCH), (.ow .sh), (7, 0))], [((29, 0), (.val (.int .i64))), ((2, 0), (.own 0)), ((8, 0), (.own 1)), ((27, 0), (.val (.sl 3 (.int .i64)))), ((7, 0), (.own 2)), ((28, 0), (.val (.int .i64)))]⟩
       (.seq .leaf
       (.seq (.cond none
         .leaf
         .leaf)
       (.seq (.block ⟨[((.ptr 26 kIM), (.ow .sh), (2, 0)), ((.sl 3 (.int .i64)), (.ow .sh), (8, 0)), ((.ptr 42 kCH), (.ow .sh), (7, 0))], [((2, 0), (.own 0)), ((8, 0), (.own 1)), ((27, 0), (.val (.sl 3 (.int .i64)))), ((7, 0), (.own 2)), ((28, 0), (.val (.int .i64))), ((29, 0), (.val (.int .i64)))]⟩ true
         (.seq .leaf
         .leaf))
       .leaf))))))
   (.seq (.seq .leaf
   (.cond (some ⟨[((.sl 3 (.int .i64)), (.ow .sh), (8, 0)), ((.ptr 42 kCH), (.ow .sh), (7, 0)), ((.ptr 26 kIM), (.ow .sh), (2, 0))], [((8, 0), (.own 0)), ((7, 0), (.own 1)), ((2, 0), (.own 2))]⟩)
     .leaf
     .leaf))
   (.seq .leaf
   (.seq .leaf
   .leaf))))))))
def d43_K1 (x0 : Nat) : ((((List Int) × (CH × (IM × Unit))) × Unit) → (Option ((Int × ((List Int) × (Int × Unit))) × Unit))) :=
  (fun (x11 : (((List Int) × (CH × (IM × Unit))) × Unit)) => (Option.bind (d55 x0 (x11.1.1, ())) fun (x12 : (Unit × ((List Int) × Unit))) =>
  (Option.bind (d54 x0 (x11.1.2.2.1, (x11.1.2.1.2.1, ()))) fun (x13 : ((Int × Unit) × Unit)) =>
  (Option.bind (d56 x0 (x12.2.1, ())) fun (x14 : (((List Int) × Unit) × Unit)) =>
  (Option.some ((x13.1.1, (x14.1.1, ((0 : Int), ()))), ()))))))
def d43_K2 (x0 : Nat) : (((CH × (IM × ((List Int) × Unit))) × Unit) → (Option ((Int × ((List Int) × (Int × Unit))) × Unit))) :=
  (fun (x8 : ((CH × (IM × ((List Int) × Unit))) × Unit)) => (lt (((List.length x8.1.2.2.1) : Nat) : Int) fun (x9 : Int) =>
  (lt (x9 == (0 : Int)) fun (x10 : Bool) =>
  (shr (d43_K1 x0) (fun (x11 : ((((List Int) × (CH × (IM × Unit))) × Unit) → (Option ((Int × ((List Int) × (Int × Unit))) × Unit)))) => (if (x10 = Bool.true) then
  (x11 ((((0 : Int) :: ([] : List Int)), (x8.1.1, (x8.1.2.1, ()))), ()))
  else (x11 ((x8.1.2.2.1, (x8.1.1, (x8.1.2.1, ()))), ()))))))))
def d43_K3 (x9 : (((IM × ((List Int) × (CH × Unit))) × (Int × ((List Int) × (Int × Unit)))) → (Option ((Int × ((List Int) × (Int × Unit))) × Unit)))) : (((IM × ((List Int) × (CH × Unit))) × ((List Int) × I2)) → (Option ((Int × ((List Int) × (Int × Unit))) × Unit))) :=
  (fun (x12 : ((IM × ((List Int) × (CH × Unit))) × ((List Int) × I2))) => (x9 ((x12.1.1, (x12.1.2.1, (x12.1.2.2.1, ()))), ((Go.IntKind.wrap Go.IntKind.i64 (x12.2.2.2.1 + (1 : Int))), (x12.2.1, (x12.2.2.1, ()))))))
def d43_L4 (x0 : Nat) (x8 : (((CH × (IM × ((List Int) × Unit))) × Unit) → (Option ((Int × ((List Int) × (Int × Unit))) × Unit)))) : ((((IM × ((List Int) × (CH × Unit))) × (Int × ((List Int) × (Int × Unit)))) → (Option ((Int × ((List Int) × (Int × Unit))) × Unit))) → (((IM × ((List Int) × (CH × Unit))) × (Int × ((List Int) × (Int × Unit)))) → (Option ((Int × ((List Int) × (Int × Unit))) × Unit)))) :=
  (fun (x9 : (((IM × ((List Int) × (CH × Unit))) × (Int × ((List Int) × (Int × Unit)))) → (Option ((Int × ((List Int) × (Int × Unit))) × Unit)))) => (fun (x10 : ((IM × ((List Int) × (CH × Unit))) × (Int × ((List Int) × (Int × Unit))))) => (lt (Decidable.decide (x10.2.1 < x10.2.2.2.1)) fun (x11 : Bool) =>
  (if (x11 = Bool.true) then
  (shr (d43_K3 x9) (fun (x12 : (((IM × ((List Int) × (CH × Unit))) × ((List Int) × I2)) → (Option ((Int × ((List Int) × (Int × Unit))) × Unit)))) => (if (((Decidable.decide ((0 : Int) ≤ x10.2.1)) && (Decidable.decide (x10.2.1 < (((List.length x10.2.2.1) : Nat) : Int)))) = Bool.true) then
  (lt (List.getD x10.2.2.1 (Int.toNat x10.2.1) (0 : Int)) fun (x13 : Int) =>
  (Option.bind (d54 x0 (x10.1.1, (x13, ()))) fun (x14 : ((Int × Unit) × Unit)) =>
  (lt (x14.1.1 :: ([] : List Int)) fun (x15 : (List Int)) =>
  (if ((Go.Lift.appFits (List.length x10.1.2.1) (List.length x15) (8 : Nat)) = Bool.true) then
  (x12 ((x10.1.1, ((x10.1.2.1 ++ x15), (x10.1.2.2.1, ()))), (x10.2.2.1, (x10.2.2.2.1, (x10.2.1, ())))))
  else (Option.none)))))
  else (Option.none))))
  else (x8 ((x10.1.2.2.1, (x10.1.1, (x10.1.2.1, ()))), ()))))))
def d43 : (Nat → ((IM × (Int × Unit)) → (Option ((Int × ((List Int) × (Int × Unit))) × Unit)))) :=
  (fun (x0 : Nat) => (fun (x1 : (IM × (Int × Unit))) => (lt (Decidable.decide (x1.2.1 < (1 : Int))) fun (x2 : Bool) =>
  (lt (((List.length x1.1.2.2.1) : Nat) : Int) fun (x3 : Int) =>
  (lt (Decidable.decide (x1.2.1 > x3)) fun (x4 : Bool) =>
  (lt (if (x2 = Bool.true) then
  Bool.true
  else x4) fun (x5 : Bool) =>
  (if (x5 = Bool.true) then
  (Option.some (((0 : Int), (([] : List Int), ((2 : Int), ()))), ()))
  else (lt (Go.IntKind.wrap Go.IntKind.i64 (x1.2.1 - (1 : Int))) fun (x6 : Int) =>
  (if (((Decidable.decide ((0 : Int) ≤ x6)) && (Decidable.decide (x6 < (((List.length x1.1.2.2.1) : Nat) : Int)))) = Bool.true) then
  (lt (List.getD x1.1.2.2.1 (Int.toNat x6) ((0 : Int), ((0 : Int), (([] : List Int), ((0 : Int), ((0 : Int), ())))))) fun (x7 : CH) =>
  (shr (d43_K2 x0) (fun (x8 : (((CH × (IM × ((List Int) × Unit))) × Unit) → (Option ((Int × ((List Int) × (Int × Unit))) × Unit)))) => (loopN (d43_L4 x0 x8) x0 ((x1.1, (([] : List Int), (x7, ()))), ((0 : Int), (x7.2.2.1, ((((List.length x7.2.2.1) : Nat) : Int), ()))))))))
  else (Option.none))))))))))
theorem k43 : c_fn Try.prog ⟨[(54, ⟨s54, d54⟩), (55, ⟨s55, d55⟩), (56, ⟨s56, d56⟩)], ks0⟩ Try.f43 s43 h43 = some d43 := by kernel_rfl
/-- bulkhead/flow.Direct -/
def s53 : Sig := ⟨[(kIM, .val)], [((.sl 50 (.sl 4 .bool)), (.own (.ow (.ow .sh))))]⟩
 def h53 : Hint := (.seq .leaf
   (.seq .leaf
   (.seq (.seq .leaf
   (.block ⟨[((.sl 50 (.sl 4 .bool)), (.ow (.ow .sh)), (3, 0))], [((3, 0), (.own 0))]⟩ true
     (.loop ⟨[((.sl 50 (.sl 4 .bool)), (.ow (.ow .sh)), (3, 0)), ((.ptr 26 kIM), (.ow .sh), (1, 0))], [((3, 0), (.own 0)), ((1, 0), (.own 1)), ((17, 0), (.val (.int .i64))), ((16, 0), (.val (.int .i64)))]⟩
       (.seq .leaf
       (.seq (.cond none
         .leaf
         .leaf)
       (.seq (.block ⟨[((.sl 50 (.sl 4 .bool)), (.ow (.ow .sh)), (3, 0)), ((.ptr 26 kIM), (.ow .sh), (1, 0))], [((3, 0), (.own 0)), ((1, 0), (.own 1)), ((16, 0), (.val (.int .i64))), ((17, 0), (.val (.int .i64)))]⟩ true
         (.seq .leaf
         (.seq .leaf
         (.seq .leaf
         (.block ⟨[((.sl 50 (.sl 4 .bool)), (.ow (.ow .sh)), (3, 0)), ((.ptr 26 kIM), (.ow .sh), (1, 0))], [((3, 0), (.own 0)), ((1, 0), (.own 1)), ((16, 0), (.val (.int .i64))), ((17, 0), (.val (.int .i64)))]⟩ true
           (.loop ⟨[((.sl 50 (.sl 4 .bool)), (.ow (.ow .sh)), (3, 0)), ((.ptr 26 kIM), (.ow .sh), (1, 0)), ((.sl 3 (.int .i64)), (.ow .sh), (28, 0))], [((30, 0), (.val (.int .i64))), ((5, 0), (.val (.int .i64))), ((3, 0), (.own 0)), ((1, 0), (.own 1)), ((28, 0), (.own 2)), ((16, 0), (.val (.int .i64))), ((17, 0), (.val (.int .i64))), ((29, 0), (.val (.int .i64)))]⟩
             (.seq .leaf
             (.seq (.cond none
               .leaf
               .leaf)
             (.seq (.block ⟨[((.sl 50 (.sl 4 .bool)), (.ow (.ow .sh)), (3, 0)), ((.ptr 26 kIM), (.ow .sh), (1, 0)), ((.sl 3 (.int .i64)), (.ow .sh), (28, 0))], [((5, 0), (.val (.int .i64))), ((3, 0), (.own 0)), ((1, 0), (.own 1)), ((28, 0), (.own 2)), ((16, 0), (.val (.int .i64))), ((17, 0), (.val (.int .i64))), ((29, 0), (.val (.int .i64))), ((30, 0), (.val (.int .i64)))]⟩ true
               (.seq .leaf
               (.seq .leaf
               (.cond (some ⟨[((.sl 50 (.sl 4 .bool)), (.ow (.ow .sh)), (3, 0)), ((.ptr 26 kIM), (.ow .sh), (1, 0)), ((.sl 3 (.int .i64)), (.ow .sh), (28, 0))], [((5, 0), (.val (.int .i64))), ((3, 0), (.own 0)), ((1, 0), (.own 1)), ((28, 0), (.own 2)), ((16, 0), (.val (.int .i64))), ((17, 0), (.val (.int .i64))), ((29, 0), (.val (.int .i64))), ((30, 0), (.val (.int .i64)))]⟩)
                 .leaf
                 .leaf))))
             .leaf)))))))))
       .leaf))))))
   (.seq .leaf
   .leaf))))
def d53_K1  : ((((List (List Bool)) × Unit) × Unit) → (Option (((List (List Bool)) × Unit) × Unit))) :=
  (fun (x3 : (((List (List Bool)) × Unit) × Unit)) => (Option.some ((x3.1.1, ()), ())))
def d53_K2 (x4 : ((((List (List Bool)) × (IM × Unit)) × I2) → (Option (((List (List Bool)) × Unit) × Unit)))) : ((((List (List Bool)) × (IM × Unit)) × I2) → (Option (((List (List Bool)) × Unit) × Unit))) :=
  (fun (x7 : (((List (List Bool)) × (IM × Unit)) × I2)) => (x4 ((x7.1.1, (x7.1.2.1, ())), ((Go.IntKind.wrap Go.IntKind.i64 (x7.2.2.1 + (1 : Int))), (x7.2.1, ())))))
def d53_K3 (x7 : ((((List (List Bool)) × (IM × Unit)) × I2) → (Option (((List (List Bool)) × Unit) × Unit)))) : ((((List (List Bool)) × (IM × Unit)) × I2) → (Option (((List (List Bool)) × Unit) × Unit))) :=
  (fun (x9 : (((List (List Bool)) × (IM × Unit)) × I2)) => (x7 ((x9.1.1, (x9.1.2.1, ())), (x9.2.1, (x9.2.2.1, ())))))
def d53_K4 (x10 : ((((List (List Bool)) × (IM × ((List Int) × Unit))) × IS) → (Option (((List (List Bool)) × Unit) × Unit)))) : ((((List (List Bool)) × (IM × ((List Int) × Unit))) × IS) → (Option (((List (List Bool)) × Unit) × Unit))) :=
  (fun (x13 : (((List (List Bool)) × (IM × ((List Int) × Unit))) × IS)) => (x10 ((x13.1.1, (x13.1.2.1, (x13.1.2.2.1, ()))), ((Go.IntKind.wrap Go.IntKind.i64 (x13.2.2.2.2.2.1 + (1 : Int))), (x13.2.1, (x13.2.2.1, (x13.2.2.2.1, (x13.2.2.2.2.1, ()))))))))
def d53_K5 (x13 : ((((List (List Bool)) × (IM × ((List Int) × Unit))) × IS) → (Option (((List (List Bool)) × Unit) × Unit)))) : ((((List (List Bool)) × (IM × ((List Int) × Unit))) × IS) → (Option (((List (List Bool)) × Unit) × Unit))) :=
  (fun (x18 : (((List (List Bool)) × (IM × ((List Int) × Unit))) × IS)) => (x13 ((x18.1.1, (x18.1.2.1, (x18.1.2.2.1, ()))), (x18.2.1, (x18.2.2.1, (x18.2.2.2.1, (x18.2.2.2.2.1, (x18.2.2.2.2.2.1, ()))))))))
def d53_L6 (x0 : Nat) (x9 : ((((List (List Bool)) × (IM × Unit)) × I2) → (Option (((List (List Bool)) × Unit) × Unit)))) : (((((List (List Bool)) × (IM × ((List Int) × Unit))) × IS) → (Option (((List (List Bool)) × Unit) × Unit))) → ((((List (List Bool)) × (IM × ((List Int) × Unit))) × IS) → (Option (((List (List Bool)) × Unit) × Unit)))) :=
  (fun (x10 : ((((List (List Bool)) × (IM × ((List Int) × Unit))) × IS) → (Option (((List (List Bool)) × Unit) × Unit)))) => (fun (x11 : (((List (List Bool)) × (IM × ((List Int) × Unit))) × IS)) => (lt (Decidable.decide (x11.2.1 < x11.2.2.2.2.2.1)) fun (x12 : Bool) =>
  (if (x12 = Bool.true) then
  (shr (d53_K4 x10) (fun (x13 : ((((List (List Bool)) × (IM × ((List Int) × Unit))) × IS) → (Option (((List (List Bool)) × Unit) × Unit)))) => (if (((Decidable.decide ((0 : Int) ≤ x11.2.1)) && (Decidable.decide (x11.2.1 < (((List.length x11.1.2.2.1) : Nat) : Int)))) = Bool.true) then
  (if (((Decidable.decide ((Int.toNat x11.2.1) < (List.length x11.1.2.2.1))) && Bool.true) = Bool.true) then
  (lt (List.getD x11.1.2.2.1 (Int.toNat x11.2.1) (0 : Int)) fun (x14 : Int) =>
  (Option.bind (d36 x0 (x11.1.2.1, (x11.2.2.1, ()))) fun (x15 : ((Bool × Unit) × Unit)) =>
  (Option.bind (if (((x15.1.1 == Bool.true) && Bool.true) = Bool.true) then
  (d36 x0 (x11.1.2.1, (x14, ())))
  else (Option.some ((Bool.false, ()), ()))) fun (x16 : ((Bool × Unit) × Unit)) =>
  (lt (if (x15.1.1 = Bool.true) then
  x16.1.1
  else Bool.false) fun (x17 : Bool) =>
  (shr (d53_K5 x13) (fun (x18 : ((((List (List Bool)) × (IM × ((List Int) × Unit))) × IS) → (Option (((List (List Bool)) × Unit) × Unit)))) => (if (x17 = Bool.true) then
  (lt (Go.IntKind.wrap Go.IntKind.i64 (x11.2.2.1 - (1 : Int))) fun (x19 : Int) =>
  (if (((Decidable.decide ((0 : Int) ≤ x19)) && (Decidable.decide (x19 < (((List.length x11.1.1) : Nat) : Int)))) = Bool.true) then
  (if (((Decidable.decide ((Int.toNat x19) < (List.length x11.1.1))) && Bool.true) = Bool.true) then
  (lt (Go.IntKind.wrap Go.IntKind.i64 (x14 - (1 : Int))) fun (x20 : Int) =>
  (if ((((Decidable.decide ((Int.toNat x19) < (List.length x11.1.1))) && Bool.true) && ((Decidable.decide ((0 : Int) ≤ x20)) && (Decidable.decide (x20 < (((List.length (List.getD x11.1.1 (Int.toNat x19) ([] : List Bool))) : Nat) : Int))))) = Bool.true) then
  (if (((Decidable.decide ((Int.toNat x19) < (List.length x11.1.1))) && ((Decidable.decide ((Int.toNat x20) < (List.length (List.getD x11.1.1 (Int.toNat x19) ([] : List Bool))))) && Bool.true)) = Bool.true) then
  (x18 (((List.set x11.1.1 (Int.toNat x19) (List.set (List.getD x11.1.1 (Int.toNat x19) ([] : List Bool)) (Int.toNat x20) Bool.true)), (x11.1.2.1, (x11.1.2.2.1, ()))), (x11.2.2.1, (x11.2.2.2.1, (x11.2.2.2.2.1, (x11.2.2.2.2.2.1, (x11.2.1, ())))))))
  else (Option.none))
  else (Option.none)))
  else (Option.none))
  else (Option.none)))
  else (x18 ((x11.1.1, (x11.1.2.1, (x11.1.2.2.1, ()))), (x11.2.2.1, (x11.2.2.2.1, (x11.2.2.2.2.1, (x11.2.2.2.2.2.1, (x11.2.1, ()))))))))))))))
  else (Option.none))
  else (Option.none))))
  else (x9 ((x11.1.1, (x11.1.2.1, ())), (x11.2.2.2.1, (x11.2.2.2.2.1, ()))))))))
def d53_L7 (x0 : Nat) (x3 : ((((List (List Bool)) × Unit) × Unit) → (Option (((List (List Bool)) × Unit) × Unit)))) : (((((List (List Bool)) × (IM × Unit)) × I2) → (Option (((List (List Bool)) × Unit) × Unit))) → ((((List (List Bool)) × (IM × Unit)) × I2) → (Option (((List (List Bool)) × Unit) × Unit)))) :=
  (fun (x4 : ((((List (List Bool)) × (IM × Unit)) × I2) → (Option (((List (List Bool)) × Unit) × Unit)))) => (fun (x5 : (((List (List Bool)) × (IM × Unit)) × I2)) => (lt (Decidable.decide (x5.2.1 < x5.2.2.1)) fun (x6 : Bool) =>
  (if (x6 = Bool.true) then
  (shr (d53_K2 x4) (fun (x7 : ((((List (List Bool)) × (IM × Unit)) × I2) → (Option (((List (List Bool)) × Unit) × Unit)))) => (Option.bind (d43 x0 (x5.1.2.1, ((Go.IntKind.wrap Go.IntKind.i64 (x5.2.1 + (1 : Int))), ()))) fun (x8 : ((Int × ((List Int) × (Int × Unit))) × Unit)) =>
  (shr (d53_K3 x7) (fun (x9 : ((((List (List Bool)) × (IM × Unit)) × I2) → (Option (((List (List Bool)) × Unit) × Unit)))) => (loopN (d53_L6 x0 x9) x0 ((x5.1.1, (x5.1.2.1, (x8.1.2.1, ()))), ((0 : Int), (x8.1.1, (x5.2.2.1, (x5.2.1, ((((List.length x8.1.2.1) : Nat) : Int), ()))))))))))))
  else (x3 ((x5.1.1, ()), ()))))))
def d53 : (Nat → ((IM × Unit) → (Option (((List (List Bool)) × Unit) × Unit)))) :=
  (fun (x0 : Nat) => (fun (x1 : (IM × Unit)) => (Option.bind (d62 x0 ((((List.length x1.1.1) : Nat) : Int), ())) fun (x2 : (((List (List Bool)) × Unit) × Unit)) =>
  (shr d53_K1 (fun (x3 : ((((List (List Bool)) × Unit) × Unit) → (Option (((List (List Bool)) × Unit) × Unit)))) => (loopN (d53_L7 x0 x3) x0 ((x2.1.1, (x1.1, ())), ((0 : Int), ((((List.length x1.1.2.2.1) : Nat) : Int), ())))))))))
theorem k53 : c_fn Try.prog ⟨[(62, ⟨s62, d62⟩), (43, ⟨s43, d43⟩), (36, ⟨s36, d36⟩)], ks0⟩ Try.f53 s53 h53 = some d53 := by kernel_rfl
/-- bulkhead/flow.Reach -/
def s37 : Sig := ⟨[(kIM, .val)], [((.sl 50 (.sl 4 .bool)), (.own (.ow (.ow .sh))))]⟩
 def h37 : Hint := (.seq .leaf
   (.seq .leaf
   (.seq (.seq .leaf
   (.block ⟨[((.sl 50 (.sl 4 .bool)), (.ow (.ow .sh)), (3, 0))], [((3, 0), (.own 0))]⟩ true
     (.loop ⟨[((.sl 50 (.sl 4 .bool)), (.ow (.ow .sh)), (3, 0))], [((12, 0), (.val (.int .i64))), ((3, 0), (.own 0)), ((11, 0), (.val (.int .i64)))]⟩
       (.seq .leaf
       (.seq (.cond none
         .leaf
         .leaf)
       (.seq (.block ⟨[((.sl 50 (.sl 4 .bool)), (.ow (.ow .sh)), (3, 0))], [((3, 0), (.own 0)), ((11, 0), (.val (.int .i64))), ((12, 0), (.val (.int .i64)))]⟩ true
         (.seq .leaf
         .leaf))
       .leaf))))))
   (.seq (.seq .leaf
   (.block ⟨[((.sl 50 (.sl 4 .bool)), (.ow (.ow .sh)), (3, 0))], [((3, 0), (.own 0))]⟩ true
     (.loop ⟨[((.sl 50 (.sl 4 .bool)), (.ow (.ow .sh)), (3, 0))], [((3, 0), (.own 0)), ((24, 0), (.val (.int .i64))), ((23, 0), (.val (.int .i64)))]⟩
       (.seq .leaf
       (.seq (.cond none
         .leaf
         .leaf)
       (.seq (.block ⟨[((.sl 50 (.sl 4 .bool)), (.ow (.ow .sh)), (3, 0))], [((3, 0), (.own 0)), ((23, 0), (.val (.int .i64))), ((24, 0), (.val (.int .i64)))]⟩ true
         (.seq .leaf
         (.seq .leaf
         (.block ⟨[((.sl 50 (.sl 4 .bool)), (.ow (.ow .sh)), (3, 0))], [((3, 0), (.own 0)), ((23, 0), (.val (.int .i64))), ((24, 0), (.val (.int .i64)))]⟩ true
           (.loop ⟨[((.sl 50 (.sl 4 .bool)), (.ow (.ow .sh)), (3, 0))], [((29, 0), (.val (.int .i64))), ((5, 0), (.val (.int .i64))), ((3, 0), (.own 0)), ((23, 0), (.val (.int .i64))), ((24, 0), (.val (.int .i64))), ((28, 0), (.val (.int .i64)))]⟩
             (.seq .leaf
             (.seq (.cond none
               .leaf
               .leaf)
             (.seq (.block ⟨[((.sl 50 (.sl 4 .bool)), (.ow (.ow .sh)), (3, 0))], [((5, 0), (.val (.int .i64))), ((3, 0), (.own 0)), ((23, 0), (.val (.int .i64))), ((24, 0), (.val (.int .i64))), ((28, 0), (.val (.int .i64))), ((29, 0), (.val (.int .i64)))]⟩ true
               (.seq .leaf
               (.seq (.seq .leaf
               (.cond none
                 .leaf
                 .leaf))
               (.seq .leaf
               (.block ⟨[((.sl 50 (.sl 4 .bool)), (.ow (.ow .sh)), (3, 0))], [((5, 0), (.val (.int .i64))), ((3, 0), (.own 0)), ((23, 0), (.val (.int .i64))), ((24, 0), (.val (.int .i64))), ((28, 0), (.val (.int .i64))), ((29, 0), (.val (.int .i64)))]⟩ true
                 (.loop ⟨[((.sl 50 (.sl 4 .bool)), (.ow (.ow .sh)), (3, 0))], [((42, 0), (.val (.int .i64))), ((5, 0), (.val (.int .i64))), ((3, 0), (.own 0)), ((6, 0), (.val (.int .i64))), ((23, 0), (.val (.int .i64))), ((24, 0), (.val (.int .i64))), ((28, 0), (.val (.int .i64))), ((29, 0), (.val (.int .i64))), ((41, 0), (.val (.int .i64)))]⟩
                   (.seq .leaf
                   (.seq (.cond none
                     .leaf
                     .leaf)
                   (.seq (.block ⟨[((.sl 50 (.sl 4 .bool)), (.ow (.ow .sh)), (3, 0))], [((5, 0), (.val (.int .i64))), ((3, 0), (.own 0)), ((6, 0), (.val (.int .i64))), ((23, 0), (.val (.int .i64))), ((24, 0), (.val (.int .i64))), ((28, 0), (.val (.int .i64))), ((29, 0), (.val (.int .i64))), ((41, 0), (.val (.int .i64))), ((42, 0), (.val (.int .i64)))]⟩ true
                     (.seq .leaf
                     .leaf))
                   .leaf)))))))))
             .leaf))))))))
       .leaf))))))
   (.seq .leaf
   .leaf)))))
def d37_K1  : ((((List (List Bool)) × Unit) × Unit) → (Option (((List (List Bool)) × Unit) × Unit))) :=
  (fun (x4 : (((List (List Bool)) × Unit) × Unit)) => (Option.some ((x4.1.1, ()), ())))
def d37_K2 (x5 : ((((List (List Bool)) × Unit) × I2) → (Option (((List (List Bool)) × Unit) × Unit)))) : ((((List (List Bool)) × Unit) × I2) → (Option (((List (List Bool)) × Unit) × Unit))) :=
  (fun (x8 : (((List (List Bool)) × Unit) × I2)) => (x5 ((x8.1.1, ()), ((Go.IntKind.wrap Go.IntKind.i64 (x8.2.2.1 + (1 : Int))), (x8.2.1, ())))))
def d37_K3 (x8 : ((((List (List Bool)) × Unit) × I2) → (Option (((List (List Bool)) × Unit) × Unit)))) : ((((List (List Bool)) × Unit) × I2) → (Option (((List (List Bool)) × Unit) × Unit))) :=
  (fun (x9 : (((List (List Bool)) × Unit) × I2)) => (x8 ((x9.1.1, ()), (x9.2.1, (x9.2.2.1, ())))))
def d37_K4 (x10 : ((((List (List Bool)) × Unit) × IS) → (Option (((List (List Bool)) × Unit) × Unit)))) : ((((List (List Bool)) × Unit) × IS) → (Option (((List (List Bool)) × Unit) × Unit))) :=
  (fun (x13 : (((List (List Bool)) × Unit) × IS)) => (x10 ((x13.1.1, ()), ((Go.IntKind.wrap Go.IntKind.i64 (x13.2.2.2.2.2.1 + (1 : Int))), (x13.2.1, (x13.2.2.1, (x13.2.2.2.1, (x13.2.2.2.2.1, ()))))))))
def d37_K5 (x13 : ((((List (List Bool)) × Unit) × IS) → (Option (((List (List Bool)) × Unit) × Unit)))) : ((((List (List Bool)) × Unit) × IS) → (Option (((List (List Bool)) × Unit) × Unit))) :=
  (fun (x16 : (((List (List Bool)) × Unit) × IS)) => (x13 ((x16.1.1, ()), (x16.2.1, (x16.2.2.1, (x16.2.2.2.1, (x16.2.2.2.2.1, (x16.2.2.2.2.2.1, ()))))))))
def d37_K6 (x17 : ((((List (List Bool)) × Unit) × (Int × (Int × (Int × IS)))) → (Option (((List (List Bool)) × Unit) × Unit)))) : ((((List (List Bool)) × Unit) × (Int × (Int × (Int × IS)))) → (Option (((List (List Bool)) × Unit) × Unit))) :=
  (fun (x20 : (((List (List Bool)) × Unit) × (Int × (Int × (Int × IS))))) => (x17 ((x20.1.1, ()), ((Go.IntKind.wrap Go.IntKind.i64 (x20.2.2.2.2.2.2.2.2.1 + (1 : Int))), (x20.2.1, (x20.2.2.1, (x20.2.2.2.1, (x20.2.2.2.2.1, (x20.2.2.2.2.2.1, (x20.2.2.2.2.2.2.1, (x20.2.2.2.2.2.2.2.1, ())))))))))))
def d37_L7 (x16 : ((((List (List Bool)) × Unit) × IS) → (Option (((List (List Bool)) × Unit) × Unit)))) : (((((List (List Bool)) × Unit) × (Int × (Int × (Int × IS)))) → (Option (((List (List Bool)) × Unit) × Unit))) → ((((List (List Bool)) × Unit) × (Int × (Int × (Int × IS)))) → (Option (((List (List Bool)) × Unit) × Unit)))) :=
  (fun (x17 : ((((List (List Bool)) × Unit) × (Int × (Int × (Int × IS)))) → (Option (((List (List Bool)) × Unit) × Unit)))) => (fun (x18 : (((List (List Bool)) × Unit) × (Int × (Int × (Int × IS))))) => (lt (Decidable.decide (x18.2.1 < x18.2.2.2.2.2.2.2.2.1)) fun (x19 : Bool) =>
  (if (x19 = Bool.true) then
  (shr (d37_K6 x17) (fun (x20 : ((((List (List Bool)) × Unit) × (Int × (Int × (Int × IS)))) → (Option (((List (List Bool)) × Unit) × Unit)))) => (if (((Decidable.decide ((0 : Int) ≤ x18.2.2.2.1)) && (Decidable.decide (x18.2.2.2.1 < (((List.length x18.1.1) : Nat) : Int)))) = Bool.true) then
  (if (((Decidable.decide ((Int.toNat x18.2.2.2.1) < (List.length x18.1.1))) && Bool.true) = Bool.true) then
  (if (((Decidable.decide ((0 : Int) ≤ x18.2.2.2.1)) && (Decidable.decide (x18.2.2.2.1 < (((List.length x18.1.1) : Nat) : Int)))) = Bool.true) then
  (if (((Decidable.decide ((Int.toNat x18.2.2.2.1) < (List.length x18.1.1))) && Bool.true) = Bool.true) then
  (if ((((Decidable.decide ((Int.toNat x18.2.2.2.1) < (List.length x18.1.1))) && Bool.true) && ((Decidable.decide ((0 : Int) ≤ x18.2.1)) && (Decidable.decide (x18.2.1 < (((List.length (List.getD x18.1.1 (Int.toNat x18.2.2.2.1) ([] : List Bool))) : Nat) : Int))))) = Bool.true) then
  (if (((Decidable.decide ((Int.toNat x18.2.2.2.1) < (List.length x18.1.1))) && ((Decidable.decide ((Int.toNat x18.2.1) < (List.length (List.getD x18.1.1 (Int.toNat x18.2.2.2.1) ([] : List Bool))))) && Bool.true)) = Bool.true) then
  (lt (List.getD (List.getD x18.1.1 (Int.toNat x18.2.2.2.1) ([] : List Bool)) (Int.toNat x18.2.1) Bool.false) fun (x21 : Bool) =>
  (if (((Bool.not ((x21 == Bool.false) && Bool.true)) || ((Decidable.decide ((0 : Int) ≤ x18.2.2.1)) && (Decidable.decide (x18.2.2.1 < (((List.length x18.1.1) : Nat) : Int))))) = Bool.true) then
  (if (((Bool.not ((x21 == Bool.false) && Bool.true)) || ((Decidable.decide ((Int.toNat x18.2.2.1) < (List.length x18.1.1))) && Bool.true)) = Bool.true) then
  (if (((Bool.not ((x21 == Bool.false) && Bool.true)) || (((Decidable.decide ((Int.toNat x18.2.2.1) < (List.length x18.1.1))) && Bool.true) && ((Decidable.decide ((0 : Int) ≤ x18.2.1)) && (Decidable.decide (x18.2.1 < (((List.length (List.getD x18.1.1 (Int.toNat x18.2.2.1) ([] : List Bool))) : Nat) : Int)))))) = Bool.true) then
  (if (((Bool.not ((x21 == Bool.false) && Bool.true)) || ((Decidable.decide ((Int.toNat x18.2.2.1) < (List.length x18.1.1))) && ((Decidable.decide ((Int.toNat x18.2.1) < (List.length (List.getD x18.1.1 (Int.toNat x18.2.2.1) ([] : List Bool))))) && Bool.true))) = Bool.true) then
  (lt (List.getD (List.getD x18.1.1 (Int.toNat x18.2.2.1) ([] : List Bool)) (Int.toNat x18.2.1) Bool.false) fun (x22 : Bool) =>
  (lt (if (x21 = Bool.true) then
  Bool.true
  else x22) fun (x23 : Bool) =>
  (if ((((Decidable.decide ((Int.toNat x18.2.2.2.1) < (List.length x18.1.1))) && Bool.true) && ((Decidable.decide ((0 : Int) ≤ x18.2.1)) && (Decidable.decide (x18.2.1 < (((List.length (List.getD x18.1.1 (Int.toNat x18.2.2.2.1) ([] : List Bool))) : Nat) : Int))))) = Bool.true) then
  (if (((Decidable.decide ((Int.toNat x18.2.2.2.1) < (List.length x18.1.1))) && ((Decidable.decide ((Int.toNat x18.2.1) < (List.length (List.getD x18.1.1 (Int.toNat x18.2.2.2.1) ([] : List Bool))))) && Bool.true)) = Bool.true) then
  (x20 (((List.set x18.1.1 (Int.toNat x18.2.2.2.1) (List.set (List.getD x18.1.1 (Int.toNat x18.2.2.2.1) ([] : List Bool)) (Int.toNat x18.2.1) x23)), ()), (x18.2.2.1, (x18.2.2.2.1, (x18.2.2.2.2.1, (x18.2.2.2.2.2.1, (x18.2.2.2.2.2.2.1, (x18.2.2.2.2.2.2.2.1, (x18.2.2.2.2.2.2.2.2.1, (x18.2.1, ()))))))))))
  else (Option.none))
  else (Option.none))))
  else (Option.none))
  else (Option.none))
  else (Option.none))
  else (Option.none)))
  else (Option.none))
  else (Option.none))
  else (Option.none))
  else (Option.none))
  else (Option.none))
  else (Option.none))))
  else (x16 ((x18.1.1, ()), (x18.2.2.1, (x18.2.2.2.2.1, (x18.2.2.2.2.2.1, (x18.2.2.2.2.2.2.1, (x18.2.2.2.2.2.2.2.1, ())))))))))))
def d37_L8 (x0 : Nat) (x9 : ((((List (List Bool)) × Unit) × I2) → (Option (((List (List Bool)) × Unit) × Unit)))) : (((((List (List Bool)) × Unit) × IS) → (Option (((List (List Bool)) × Unit) × Unit))) → ((((List (List Bool)) × Unit) × IS) → (Option (((List (List Bool)) × Unit) × Unit)))) :=
  (fun (x10 : ((((List (List Bool)) × Unit) × IS) → (Option (((List (List Bool)) × Unit) × Unit)))) => (fun (x11 : (((List (List Bool)) × Unit) × IS)) => (lt (Decidable.decide (x11.2.1 < x11.2.2.2.2.2.1)) fun (x12 : Bool) =>
  (if (x12 = Bool.true) then
  (shr (d37_K4 x10) (fun (x13 : ((((List (List Bool)) × Unit) × IS) → (Option (((List (List Bool)) × Unit) × Unit)))) => (if (((Decidable.decide ((0 : Int) ≤ x11.2.1)) && (Decidable.decide (x11.2.1 < (((List.length x11.1.1) : Nat) : Int)))) = Bool.true) then
  (if (((Decidable.decide ((Int.toNat x11.2.1) < (List.length x11.1.1))) && Bool.true) = Bool.true) then
  (if ((((Decidable.decide ((Int.toNat x11.2.1) < (List.length x11.1.1))) && Bool.true) && ((Decidable.decide ((0 : Int) ≤ x11.2.2.1)) && (Decidable.decide (x11.2.2.1 < (((List.length (List.getD x11.1.1 (Int.toNat x11.2.1) ([] : List Bool))) : Nat) : Int))))) = Bool.true) then
  (if (((Decidable.decide ((Int.toNat x11.2.1) < (List.length x11.1.1))) && ((Decidable.decide ((Int.toNat x11.2.2.1) < (List.length (List.getD x11.1.1 (Int.toNat x11.2.1) ([] : List Bool))))) && Bool.true)) = Bool.true) then
  (lt (List.getD (List.getD x11.1.1 (Int.toNat x11.2.1) ([] : List Bool)) (Int.toNat x11.2.2.1) Bool.false) fun (x14 : Bool) =>
  (lt (Bool.not x14) fun (x15 : Bool) =>
  (if (x15 = Bool.true) then
  (x13 ((x11.1.1, ()), (x11.2.2.1, (x11.2.2.2.1, (x11.2.2.2.2.1, (x11.2.2.2.2.2.1, (x11.2.1, ())))))))
  else (shr (d37_K5 x13) (fun (x16 : ((((List (List Bool)) × Unit) × IS) → (Option (((List (List Bool)) × Unit) × Unit)))) => (loopN (d37_L7 x16) x0 ((x11.1.1, ()), ((0 : Int), (x11.2.2.1, (x11.2.1, (x11.2.2.2.1, (x11.2.2.2.2.1, (x11.2.2.2.2.2.1, (x11.2.1, ((((List.length x11.1.1) : Nat) : Int), ())))))))))))))))
  else (Option.none))
  else (Option.none))
  else (Option.none))
  else (Option.none))))
  else (x9 ((x11.1.1, ()), (x11.2.2.2.1, (x11.2.2.2.2.1, ()))))))))
def d37_L9 (x0 : Nat) (x4 : ((((List (List Bool)) × Unit) × Unit) → (Option (((List (List Bool)) × Unit) × Unit)))) : (((((List (List Bool)) × Unit) × I2) → (Option (((List (List Bool)) × Unit) × Unit))) → ((((List (List Bool)) × Unit) × I2) → (Option (((List (List Bool)) × Unit) × Unit)))) :=
  (fun (x5 : ((((List (List Bool)) × Unit) × I2) → (Option (((List (List Bool)) × Unit) × Unit)))) => (fun (x6 : (((List (List Bool)) × Unit) × I2)) => (lt (Decidable.decide (x6.2.1 < x6.2.2.1)) fun (x7 : Bool) =>
  (if (x7 = Bool.true) then
  (shr (d37_K2 x5) (fun (x8 : ((((List (List Bool)) × Unit) × I2) → (Option (((List (List Bool)) × Unit) × Unit)))) => (shr (d37_K3 x8) (fun (x9 : ((((List (List Bool)) × Unit) × I2) → (Option (((List (List Bool)) × Unit) × Unit)))) => (loopN (d37_L8 x0 x9) x0 ((x6.1.1, ()), ((0 : Int), (x6.2.1, (x6.2.2.1, (x6.2.1, ((((List.length x6.1.1) : Nat) : Int), ())))))))))))
  else (x4 ((x6.1.1, ()), ()))))))
def d37_K10 (x0 : Nat) : ((((List (List Bool)) × Unit) × Unit) → (Option (((List (List Bool)) × Unit) × Unit))) :=
  (fun (x3 : (((List (List Bool)) × Unit) × Unit)) => (shr d37_K1 (fun (x4 : ((((List (List Bool)) × Unit) × Unit) → (Option (((List (List Bool)) × Unit) × Unit)))) => (loopN (d37_L9 x0 x4) x0 ((x3.1.1, ()), ((0 : Int), ((((List.length x3.1.1) : Nat) : Int), ())))))))
def d37_K11 (x4 : ((((List (List Bool)) × Unit) × I2) → (Option (((List (List Bool)) × Unit) × Unit)))) : ((((List (List Bool)) × Unit) × I2) → (Option (((List (List Bool)) × Unit) × Unit))) :=
  (fun (x7 : (((List (List Bool)) × Unit) × I2)) => (x4 ((x7.1.1, ()), ((Go.IntKind.wrap Go.IntKind.i64 (x7.2.2.1 + (1 : Int))), (x7.2.1, ())))))
def d37_L12 (x3 : ((((List (List Bool)) × Unit) × Unit) → (Option (((List (List Bool)) × Unit) × Unit)))) : (((((List (List Bool)) × Unit) × I2) → (Option (((List (List Bool)) × Unit) × Unit))) → ((((List (List Bool)) × Unit) × I2) → (Option (((List (List Bool)) × Unit) × Unit)))) :=
  (fun (x4 : ((((List (List Bool)) × Unit) × I2) → (Option (((List (List Bool)) × Unit) × Unit)))) => (fun (x5 : (((List (List Bool)) × Unit) × I2)) => (lt (Decidable.decide (x5.2.1 < x5.2.2.1)) fun (x6 : Bool) =>
  (if (x6 = Bool.true) then
  (shr (d37_K11 x4) (fun (x7 : ((((List (List Bool)) × Unit) × I2) → (Option (((List (List Bool)) × Unit) × Unit)))) => (if (((Decidable.decide ((0 : Int) ≤ x5.2.1)) && (Decidable.decide (x5.2.1 < (((List.length x5.1.1) : Nat) : Int)))) = Bool.true) then
  (if (((Decidable.decide ((Int.toNat x5.2.1) < (List.length x5.1.1))) && Bool.true) = Bool.true) then
  (if ((((Decidable.decide ((Int.toNat x5.2.1) < (List.length x5.1.1))) && Bool.true) && ((Decidable.decide ((0 : Int) ≤ x5.2.1)) && (Decidable.decide (x5.2.1 < (((List.length (List.getD x5.1.1 (Int.toNat x5.2.1) ([] : List Bool))) : Nat) : Int))))) = Bool.true) then
  (if (((Decidable.decide ((Int.toNat x5.2.1) < (List.length x5.1.1))) && ((Decidable.decide ((Int.toNat x5.2.1) < (List.length (List.getD x5.1.1 (Int.toNat x5.2.1) ([] : List Bool))))) && Bool.true)) = Bool.true) then
  (x7 (((List.set x5.1.1 (Int.toNat x5.2.1) (List.set (List.getD x5.1.1 (Int.toNat x5.2.1) ([] : List Bool)) (Int.toNat x5.2.1) Bool.true)), ()), (x5.2.2.1, (x5.2.1, ()))))
  else (Option.none))
  else (Option.none))
  else (Option.none))
  else (Option.none))))
  else (x3 ((x5.1.1, ()), ()))))))
def d37 : (Nat → ((IM × Unit) → (Option (((List (List Bool)) × Unit) × Unit)))) :=
  (fun (x0 : Nat) => (fun (x1 : (IM × Unit)) => (Option.bind (d53 x0 (x1.1, ())) fun (x2 : (((List (List Bool)) × Unit) × Unit)) =>
  (shr (d37_K10 x0) (fun (x3 : ((((List (List Bool)) × Unit) × Unit) → (Option (((List (List Bool)) × Unit) × Unit)))) => (loopN (d37_L12 x3) x0 ((x2.1.1, ()), ((0 : Int), ((((List.length x2.1.1) : Nat) : Int), ())))))))))
theorem k37 : c_fn Try.prog ⟨[(53, ⟨s53, d53⟩)], ks0⟩ Try.f37 s37 h37 = some d37 := by kernel_rfl
/-- bulkhead/flow.Sources -/
def s17 : Sig := ⟨[(kIM, .val), ((.int .i64), .val)], [((.sl 3 (.int .i64)), (.own (.ow .sh))), ((.int .i64), .val)]⟩
 def h17 : Hint := (.seq .leaf
   (.seq (.seq .leaf
   (.cond none
     (.seq .leaf
     .leaf)
     .leaf))
   (.seq .leaf
   (.seq (.seq .leaf
   (.block ⟨[((.sl 3 (.int .i64)), (.ow .sh), (6, 0))], [((6, 0), (.own 0))]⟩ true
     (.loop ⟨[((.sl 3 (.int .i64)), (.ow .sh), (6, 0)), ((.sl 50 (.sl 4 .bool)), (.ow (.ow .sh)), (14, 0))], [((16, 0), (.val (.int .i64))), ((6, 0), (.own 0)), ((1, 0), (.val (.int .i64))), ((14, 0), (.own 1)), ((15, 0), (.val (.int .i64)))]⟩
       (.seq .leaf
       (.seq (.cond none
         .leaf
         .leaf)
       (.seq (.block ⟨[((.sl 3 (.int .i64)), (.ow .sh), (6, 0)), ((.sl 50 (.sl 4 .bool)), (.ow (.ow .sh)), (14, 0))], [((6, 0), (.own 0)), ((1, 0), (.val (.int .i64))), ((14, 0), (.own 1)), ((15, 0), (.val (.int .i64))), ((16, 0), (.val (.int .i64)))]⟩ true
         (.seq .leaf
         (.seq .leaf
         (.cond (some ⟨[((.sl 3 (.int .i64)), (.ow .sh), (6, 0)), ((.sl 50 (.sl 4 .bool)), (.ow (.ow .sh)), (14, 0))], [((6, 0), (.own 0)), ((1, 0), (.val (.int .i64))), ((14, 0), (.own 1)), ((15, 0), (.val (.int .i64))), ((16, 0), (.val (.int .i64)))]⟩)
           .leaf
           .leaf))))
       .leaf))))))
   (.seq .leaf
   .leaf)))))
def d17_K1  : ((((List Int) × Unit) × Unit) → (Option (((List Int) × (Int × Unit)) × Unit))) :=
  (fun (x5 : (((List Int) × Unit) × Unit)) => (Option.some ((x5.1.1, ((0 : Int), ())), ())))
def d17_K2 (x6 : ((((List Int) × ((List (List Bool)) × Unit)) × (Int × I2)) → (Option (((List Int) × (Int × Unit)) × Unit)))) : ((((List Int) × ((List (List Bool)) × Unit)) × (Int × I2)) → (Option (((List Int) × (Int × Unit)) × Unit))) :=
  (fun (x9 : (((List Int) × ((List (List Bool)) × Unit)) × (Int × I2))) => (x6 ((x9.1.1, (x9.1.2.1, ())), ((Go.IntKind.wrap Go.IntKind.i64 (x9.2.2.2.1 + (1 : Int))), (x9.2.1, (x9.2.2.1, ()))))))
def d17_K3 (x9 : ((((List Int) × ((List (List Bool)) × Unit)) × (Int × I2)) → (Option (((List Int) × (Int × Unit)) × Unit)))) : ((((List Int) × ((List (List Bool)) × Unit)) × (Int × I2)) → (Option (((List Int) × (Int × Unit)) × Unit))) :=
  (fun (x12 : (((List Int) × ((List (List Bool)) × Unit)) × (Int × I2))) => (x9 ((x12.1.1, (x12.1.2.1, ())), (x12.2.1, (x12.2.2.1, (x12.2.2.2.1, ()))))))
def d17_L4 (x5 : ((((List Int) × Unit) × Unit) → (Option (((List Int) × (Int × Unit)) × Unit)))) : (((((List Int) × ((List (List Bool)) × Unit)) × (Int × I2)) → (Option (((List Int) × (Int × Unit)) × Unit))) → ((((List Int) × ((List (List Bool)) × Unit)) × (Int × I2)) → (Option (((List Int) × (Int × Unit)) × Unit)))) :=
  (fun (x6 : ((((List Int) × ((List (List Bool)) × Unit)) × (Int × I2)) → (Option (((List Int) × (Int × Unit)) × Unit)))) => (fun (x7 : (((List Int) × ((List (List Bool)) × Unit)) × (Int × I2))) => (lt (Decidable.decide (x7.2.1 < x7.2.2.2.1)) fun (x8 : Bool) =>
  (if (x8 = Bool.true) then
  (shr (d17_K2 x6) (fun (x9 : ((((List Int) × ((List (List Bool)) × Unit)) × (Int × I2)) → (Option (((List Int) × (Int × Unit)) × Unit)))) => (if (((Decidable.decide ((0 : Int) ≤ x7.2.1)) && (Decidable.decide (x7.2.1 < (((List.length x7.1.2.1) : Nat) : Int)))) = Bool.true) then
  (if (((Decidable.decide ((Int.toNat x7.2.1) < (List.length x7.1.2.1))) && Bool.true) = Bool.true) then
  (lt (Go.IntKind.wrap Go.IntKind.i64 (x7.2.2.1 - (1 : Int))) fun (x10 : Int) =>
  (if ((((Decidable.decide ((Int.toNat x7.2.1) < (List.length x7.1.2.1))) && Bool.true) && ((Decidable.decide ((0 : Int) ≤ x10)) && (Decidable.decide (x10 < (((List.length (List.getD x7.1.2.1 (Int.toNat x7.2.1) ([] : List Bool))) : Nat) : Int))))) = Bool.true) then
  (if (((Decidable.decide ((Int.toNat x7.2.1) < (List.length x7.1.2.1))) && ((Decidable.decide ((Int.toNat x10) < (List.length (List.getD x7.1.2.1 (Int.toNat x7.2.1) ([] : List Bool))))) && Bool.true)) = Bool.true) then
  (lt (List.getD (List.getD x7.1.2.1 (Int.toNat x7.2.1) ([] : List Bool)) (Int.toNat x10) Bool.false) fun (x11 : Bool) =>
  (shr (d17_K3 x9) (fun (x12 : ((((List Int) × ((List (List Bool)) × Unit)) × (Int × I2)) → (Option (((List Int) × (Int × Unit)) × Unit)))) => (if (x11 = Bool.true) then
  (lt (Go.IntKind.wrap Go.IntKind.i64 (x7.2.1 + (1 : Int))) fun (x13 : Int) =>
  (lt (x13 :: ([] : List Int)) fun (x14 : (List Int)) =>
  (if ((Go.Lift.appFits (List.length x7.1.1) (List.length x14) (8 : Nat)) = Bool.true) then
  (x12 (((x7.1.1 ++ x14), (x7.1.2.1, ())), (x7.2.2.1, (x7.2.2.2.1, (x7.2.1, ())))))
  else (Option.none))))
  else (x12 ((x7.1.1, (x7.1.2.1, ())), (x7.2.2.1, (x7.2.2.2.1, (x7.2.1, ())))))))))
  else (Option.none))
  else (Option.none)))
  else (Option.none))
  else (Option.none))))
  else (x5 ((x7.1.1, ()), ()))))))
def d17 : (Nat → ((IM × (Int × Unit)) → (Option (((List Int) × (Int × Unit)) × Unit)))) :=
  (fun (x0 : Nat) => (fun (x1 : (IM × (Int × Unit))) => (Option.bind (d36 x0 (x1.1, (x1.2.1, ()))) fun (x2 : ((Bool × Unit) × Unit)) =>
  (lt (Bool.not x2.1.1) fun (x3 : Bool) =>
  (if (x3 = Bool.true) then
  (Option.some ((([] : List Int), ((220 : Int), ())), ()))
  else (Option.bind (d37 x0 (x1.1, ())) fun (x4 : (((List (List Bool)) × Unit) × Unit)) =>
  (shr d17_K1 (fun (x5 : ((((List Int) × Unit) × Unit) → (Option (((List Int) × (Int × Unit)) × Unit)))) => (loopN (d17_L4 x5) x0 ((([] : List Int), (x4.1.1, ())), ((0 : Int), (x1.2.1, ((((List.length x4.1.1) : Nat) : Int), ())))))))))))))
theorem k17 : c_fn Try.prog ⟨[(36, ⟨s36, d36⟩), (37, ⟨s37, d37⟩)], ks0⟩ Try.f17 s17 h17 = some d17 := by kernel_rfl
/-- bulkhead/flow.Alike$1 -/
def s19 : Sig := ⟨[(kPA, .val), (kPA, .val)], [(.bool, .val)]⟩
 def h19 : Hint := (.seq .leaf
   (.seq .leaf
   .leaf))
def d19 : (Nat → ((PA × (PA × Unit)) → (Option ((Bool × Unit) × Unit)))) :=
  (fun (x0 : Nat) => (fun (x1 : (PA × (PA × Unit))) => (Option.some ((((x1.1.1.1 == x1.2.1.1.1) && ((x1.1.1.2.1 == x1.2.1.1.2.1) && ((x1.1.1.2.2.1 == x1.2.1.1.2.2.1) && ((x1.1.1.2.2.2.1 == x1.2.1.1.2.2.2.1) && Bool.true)))), ()), ()))))
theorem k19 : c_fn Try.prog ⟨[], ks0⟩ Try.f19 s19 h19 = some d19 := by kernel_rfl
/-- slices.EqualFunc[[]bulkhead/api.Part,[]bulkhead/api.Part,bulkhead/api.Part,bulkhead/api.Part] -/
def s18 : Sig := ⟨[((.sl 53 kPA), .val), ((.sl 53 kPA), .val), ((.fn 19 .unit), .val)], [(.bool, .val)]⟩
 def h18 : Hint := (.seq .leaf
   (.seq (.seq .leaf
   (.cond none
     (.seq .leaf
     .leaf)
     .leaf))
   (.seq (.seq .leaf
   (.block ⟨[], []⟩ true
     (.loop ⟨[], [((17, 0), (.val (.int .i64))), ((2, 0), (.val (.fn 19 .unit))), ((1, 0), (.val (.sl 53 kPA))), ((15, 0), (.val (.sl 53 kPA))), ((16, 0), (.val (.int .i64)))]⟩
       (.seq .leaf
       (.seq (.cond none
         .leaf
         .leaf)
       (.seq (.block ⟨[], [((2, 0), (.val (.fn 19 .unit))), ((1, 0), (.val (.sl 53 kPA))), ((15, 0), (.val (.sl 53 kPA))), ((16, 0), (.val (.int .i64))), ((17, 0), (.val (.int .i64)))]⟩ true
         (.seq .leaf
         (.seq .leaf
         (.seq .leaf
         (.cond none
           (.seq .leaf
           .leaf)
           .leaf)))))
       .leaf))))))
   (.seq .leaf
   .leaf))))
def d18_K1 (x6 : ((Unit × (Int × (Unit × ((List PA) × ((List PA) × (Int × Unit)))))) → (Option ((Bool × Unit) × Unit)))) : ((Unit × (Unit × ((List PA) × ((List PA) × I2)))) → (Option ((Bool × Unit) × Unit))) :=
  (fun (x9 : (Unit × (Unit × ((List PA) × ((List PA) × I2))))) => (x6 ((), ((Go.IntKind.wrap Go.IntKind.i64 (x9.2.2.2.2.2.1 + (1 : Int))), (x9.2.1, (x9.2.2.1, (x9.2.2.2.1, (x9.2.2.2.2.1, ()))))))))
def d18_L2 (x0 : Nat) (x5 : ((Unit × Unit) → (Option ((Bool × Unit) × Unit)))) : (((Unit × (Int × (Unit × ((List PA) × ((List PA) × (Int × Unit)))))) → (Option ((Bool × Unit) × Unit))) → ((Unit × (Int × (Unit × ((List PA) × ((List PA) × (Int × Unit)))))) → (Option ((Bool × Unit) × Unit)))) :=
  (fun (x6 : ((Unit × (Int × (Unit × ((List PA) × ((List PA) × (Int × Unit)))))) → (Option ((Bool × Unit) × Unit)))) => (fun (x7 : (Unit × (Int × (Unit × ((List PA) × ((List PA) × (Int × Unit))))))) => (lt (Decidable.decide (x7.2.1 < x7.2.2.2.2.2.1)) fun (x8 : Bool) =>
  (if (x8 = Bool.true) then
  (shr (d18_K1 x6) (fun (x9 : ((Unit × (Unit × ((List PA) × ((List PA) × I2)))) → (Option ((Bool × Unit) × Unit)))) => (if (((Decidable.decide ((0 : Int) ≤ x7.2.1)) && (Decidable.decide (x7.2.1 < (((List.length x7.2.2.2.2.1) : Nat) : Int)))) = Bool.true) then
  (lt (List.getD x7.2.2.2.2.1 (Int.toNat x7.2.1) (((0 : Int), ((0 : Int), ((0 : Int), ((0 : Int), ())))), ((0 : Int), ((0 : Int), (([] : List Int), (([] : List IS), (([] : List PC), ((0 : Int), ((List.replicate (8 : Nat) (0 : Int)), (([] : List I2), (([] : List Bool), (([] : List I2), ())))))))))))) fun (x10 : PA) =>
  (lt (List.replicate (8 : Nat) (0 : Int)) fun (x11 : (List Int)) =>
  (if (((Decidable.decide ((0 : Int) ≤ x7.2.1)) && (Decidable.decide (x7.2.1 < (((List.length x7.2.2.2.1) : Nat) : Int)))) = Bool.true) then
  (lt (List.getD x7.2.2.2.1 (Int.toNat x7.2.1) (((0 : Int), ((0 : Int), ((0 : Int), ((0 : Int), ())))), ((0 : Int), ((0 : Int), (([] : List Int), (([] : List IS), (([] : List PC), ((0 : Int), ((List.replicate (8 : Nat) (0 : Int)), (([] : List I2), (([] : List Bool), (([] : List I2), ())))))))))))) fun (x12 : PA) =>
  (Option.bind (d19 x0 (x10, (x12, ()))) fun (x13 : ((Bool × Unit) × Unit)) =>
  (lt (Bool.not x13.1.1) fun (x14 : Bool) =>
  (if (x14 = Bool.true) then
  (Option.some ((Bool.false, ()), ()))
  else (x9 ((), (x7.2.2.1, (x7.2.2.2.1, (x7.2.2.2.2.1, (x7.2.2.2.2.2.1, (x7.2.1, ())))))))))))
  else (Option.none))))
  else (Option.none))))
  else (x5 ((), ()))))))
def d18 : (Nat → (((List PA) × ((List PA) × (Unit × Unit))) → (Option ((Bool × Unit) × Unit)))) :=
  (fun (x0 : Nat) => (fun (x1 : ((List PA) × ((List PA) × (Unit × Unit)))) => (lt (((List.length x1.1) : Nat) : Int) fun (x2 : Int) =>
  (lt (((List.length x1.2.1) : Nat) : Int) fun (x3 : Int) =>
  (lt (x2 != x3) fun (x4 : Bool) =>
  (if (x4 = Bool.true) then
  (Option.some ((Bool.false, ()), ()))
  else (shr (fun (x5 : (Unit × Unit)) => (Option.some ((Bool.true, ()), ()))) (fun (x5 : ((Unit × Unit) → (Option ((Bool × Unit) × Unit)))) => (loopN (d18_L2 x0 x5) x0 ((), ((0 : Int), (x1.2.2.1, (x1.2.1, (x1.1, ((((List.length x1.1) : Nat) : Int), ())))))))))))))))
theorem k18 : c_fn Try.prog ⟨[(19, ⟨s19, d19⟩)], ks0⟩ Try.f18 s18 h18 = some d18 := by kernel_rfl
/-- slices.Equal[[]int,int] -/
def s22 : Sig := ⟨[((.sl 3 (.int .i64)), .val), ((.sl 3 (.int .i64)), .val)], [(.bool, .val)]⟩
 def h22 : Hint := (.seq .leaf
   (.seq (.seq .leaf
   (.cond none
     (.seq .leaf
     .leaf)
     .leaf))
   (.seq (.seq .leaf
   (.block ⟨[], []⟩ true
     (.loop ⟨[], [((13, 0), (.val (.int .i64))), ((1, 0), (.val (.sl 3 (.int .i64)))), ((0, 0), (.val (.sl 3 (.int .i64)))), ((12, 0), (.val (.int .i64)))]⟩
       (.seq .leaf
       (.seq (.cond none
         .leaf
         .leaf)
       (.seq (.block ⟨[], [((1, 0), (.val (.sl 3 (.int .i64)))), ((0, 0), (.val (.sl 3 (.int .i64)))), ((12, 0), (.val (.int .i64))), ((13, 0), (.val (.int .i64)))]⟩ true
         (.seq .leaf
         (.seq .leaf
         (.cond none
           (.seq .leaf
           .leaf)
           .leaf))))
       .leaf))))))
   (.seq .leaf
   .leaf))))
def d22_K1 (x6 : ((Unit × (Int × ((List Int) × ((List Int) × (Int × Unit))))) → (Option ((Bool × Unit) × Unit)))) : ((Unit × ((List Int) × ((List Int) × I2))) → (Option ((Bool × Unit) × Unit))) :=
  (fun (x9 : (Unit × ((List Int) × ((List Int) × I2)))) => (x6 ((), ((Go.IntKind.wrap Go.IntKind.i64 (x9.2.2.2.2.1 + (1 : Int))), (x9.2.1, (x9.2.2.1, (x9.2.2.2.1, ())))))))
def d22_L2 (x5 : ((Unit × Unit) → (Option ((Bool × Unit) × Unit)))) : (((Unit × (Int × ((List Int) × ((List Int) × (Int × Unit))))) → (Option ((Bool × Unit) × Unit))) → ((Unit × (Int × ((List Int) × ((List Int) × (Int × Unit))))) → (Option ((Bool × Unit) × Unit)))) :=
  (fun (x6 : ((Unit × (Int × ((List Int) × ((List Int) × (Int × Unit))))) → (Option ((Bool × Unit) × Unit)))) => (fun (x7 : (Unit × (Int × ((List Int) × ((List Int) × (Int × Unit)))))) => (lt (Decidable.decide (x7.2.1 < x7.2.2.2.2.1)) fun (x8 : Bool) =>
  (if (x8 = Bool.true) then
  (shr (d22_K1 x6) (fun (x9 : ((Unit × ((List Int) × ((List Int) × I2))) → (Option ((Bool × Unit) × Unit)))) => (if (((Decidable.decide ((0 : Int) ≤ x7.2.1)) && (Decidable.decide (x7.2.1 < (((List.length x7.2.2.2.1) : Nat) : Int)))) = Bool.true) then
  (lt (List.getD x7.2.2.2.1 (Int.toNat x7.2.1) (0 : Int)) fun (x10 : Int) =>
  (if (((Decidable.decide ((0 : Int) ≤ x7.2.1)) && (Decidable.decide (x7.2.1 < (((List.length x7.2.2.1) : Nat) : Int)))) = Bool.true) then
  (lt (List.getD x7.2.2.1 (Int.toNat x7.2.1) (0 : Int)) fun (x11 : Int) =>
  (lt (x10 != x11) fun (x12 : Bool) =>
  (if (x12 = Bool.true) then
  (Option.some ((Bool.false, ()), ()))
  else (x9 ((), (x7.2.2.1, (x7.2.2.2.1, (x7.2.2.2.2.1, (x7.2.1, ())))))))))
  else (Option.none)))
  else (Option.none))))
  else (x5 ((), ()))))))
def d22 : (Nat → (((List Int) × ((List Int) × Unit)) → (Option ((Bool × Unit) × Unit)))) :=
  (fun (x0 : Nat) => (fun (x1 : ((List Int) × ((List Int) × Unit))) => (lt (((List.length x1.1) : Nat) : Int) fun (x2 : Int) =>
  (lt (((List.length x1.2.1) : Nat) : Int) fun (x3 : Int) =>
  (lt (x2 != x3) fun (x4 : Bool) =>
  (if (x4 = Bool.true) then
  (Option.some ((Bool.false, ()), ()))
  else (shr (fun (x5 : (Unit × Unit)) => (Option.some ((Bool.true, ()), ()))) (fun (x5 : ((Unit × Unit) → (Option ((Bool × Unit) × Unit)))) => (loopN (d22_L2 x5) x0 ((), ((0 : Int), (x1.2.1, (x1.1, ((((List.length x1.1) : Nat) : Int), ()))))))))))))))
theorem k22 : c_fn Try.prog ⟨[], ks0⟩ Try.f22 s22 h22 = some d22 := by kernel_rfl
/-- bulkhead/flow.Alike$2 -/
def s21 : Sig := ⟨[(kCH, .val), (kCH, .val)], [(.bool, .val)]⟩
 def h21 : Hint := (.seq .leaf
   (.seq .leaf
   .leaf))
def d21 : (Nat → ((CH × (CH × Unit)) → (Option ((Bool × Unit) × Unit)))) :=
  (fun (x0 : Nat) => (fun (x1 : (CH × (CH × Unit))) => (lt (x1.1.1 == x1.2.1.1) fun (x2 : Bool) =>
  (lt (x1.1.2.1 == x1.2.1.2.1) fun (x3 : Bool) =>
  (lt (if (x2 = Bool.true) then
  x3
  else Bool.false) fun (x4 : Bool) =>
  (lt (x1.1.2.2.2.1 == x1.2.1.2.2.2.1) fun (x5 : Bool) =>
  (lt (if (x4 = Bool.true) then
  x5
  else Bool.false) fun (x6 : Bool) =>
  (lt (x1.1.2.2.2.2.1 == x1.2.1.2.2.2.2.1) fun (x7 : Bool) =>
  (lt (if (x6 = Bool.true) then
  x7
  else Bool.false) fun (x8 : Bool) =>
  (Option.bind (if (((x8 == Bool.true) && Bool.true) = Bool.true) then
  (d22 x0 (x1.1.2.2.1, (x1.2.1.2.2.1, ())))
  else (Option.some ((Bool.false, ()), ()))) fun (x9 : ((Bool × Unit) × Unit)) =>
  (Option.some (((if (x8 = Bool.true) then
  x9.1.1
  else Bool.false), ()), ()))))))))))))
theorem k21 : c_fn Try.prog ⟨[(22, ⟨s22, d22⟩)], ks0⟩ Try.f21 s21 h21 = some d21 := by kernel_rfl
/-- slices.EqualFunc[[]bulkhead/api.Channel,[]bulkhead/api.Channel,bulkhead/api.Channel,bulkhead/api.Channel] -/
def s20 : Sig := ⟨[((.sl 42 kCH), .val), ((.sl 42 kCH), .val), ((.fn 21 .unit), .val)], [(.bool, .val)]⟩
 def h20 : Hint := (.seq .leaf
   (.seq (.seq .leaf
   (.cond none
     (.seq .leaf
     .leaf)
     .leaf))
   (.seq (.seq .leaf
   (.block ⟨[], []⟩ true
     (.loop ⟨[], [((17, 0), (.val (.int .i64))), ((2, 0), (.val (.fn 21 .unit))), ((1, 0), (.val (.sl 42 kCH))), ((15, 0), (.val (.sl 42 kCH))), ((16, 0), (.val (.int .i64)))]⟩
       (.seq .leaf
       (.seq (.cond none
         .leaf
         .leaf)
       (.seq (.block ⟨[], [((2, 0), (.val (.fn 21 .unit))), ((1, 0), (.val (.sl 42 kCH))), ((15, 0), (.val (.sl 42 kCH))), ((16, 0), (.val (.int .i64))), ((17, 0), (.val (.int .i64)))]⟩ true
         (.seq .leaf
         (.seq .leaf
         (.seq .leaf
         (.cond none
           (.seq .leaf
           .leaf)
           .leaf)))))
       .leaf))))))
   (.seq .leaf
   .leaf))))
def d20_K1 (x6 : ((Unit × (Int × (Unit × ((List CH) × ((List CH) × (Int × Unit)))))) → (Option ((Bool × Unit) × Unit)))) : ((Unit × (Unit × ((List CH) × ((List CH) × I2)))) → (Option ((Bool × Unit) × Unit))) :=
  (fun (x9 : (Unit × (Unit × ((List CH) × ((List CH) × I2))))) => (x6 ((), ((Go.IntKind.wrap Go.IntKind.i64 (x9.2.2.2.2.2.1 + (1 : Int))), (x9.2.1, (x9.2.2.1, (x9.2.2.2.1, (x9.2.2.2.2.1, ()))))))))
def d20_L2 (x0 : Nat) (x5 : ((Unit × Unit) → (Option ((Bool × Unit) × Unit)))) : (((Unit × (Int × (Unit × ((List CH) × ((List CH) × (Int × Unit)))))) → (Option ((Bool × Unit) × Unit))) → ((Unit × (Int × (Unit × ((List CH) × ((List CH) × (Int × Unit)))))) → (Option ((Bool × Unit) × Unit)))) :=
  (fun (x6 : ((Unit × (Int × (Unit × ((List CH) × ((List CH) × (Int × Unit)))))) → (Option ((Bool × Unit) × Unit)))) => (fun (x7 : (Unit × (Int × (Unit × ((List CH) × ((List CH) × (Int × Unit))))))) => (lt (Decidable.decide (x7.2.1 < x7.2.2.2.2.2.1)) fun (x8 : Bool) =>
  (if (x8 = Bool.true) then
  (shr (d20_K1 x6) (fun (x9 : ((Unit × (Unit × ((List CH) × ((List CH) × I2)))) → (Option ((Bool × Unit) × Unit)))) => (if (((Decidable.decide ((0 : Int) ≤ x7.2.1)) && (Decidable.decide (x7.2.1 < (((List.length x7.2.2.2.2.1) : Nat) : Int)))) = Bool.true) then
  (lt (List.getD x7.2.2.2.2.1 (Int.toNat x7.2.1) ((0 : Int), ((0 : Int), (([] : List Int), ((0 : Int), ((0 : Int), ())))))) fun (x10 : CH) =>
  (if (((Decidable.decide ((0 : Int) ≤ x7.2.1)) && (Decidable.decide (x7.2.1 < (((List.length x7.2.2.2.1) : Nat) : Int)))) = Bool.true) then
  (lt (List.getD x7.2.2.2.1 (Int.toNat x7.2.1) ((0 : Int), ((0 : Int), (([] : List Int), ((0 : Int), ((0 : Int), ())))))) fun (x11 : CH) =>
  (Option.bind (d21 x0 (x10, (x11, ()))) fun (x12 : ((Bool × Unit) × Unit)) =>
  (lt (Bool.not x12.1.1) fun (x13 : Bool) =>
  (if (x13 = Bool.true) then
  (Option.some ((Bool.false, ()), ()))
  else (x9 ((), (x7.2.2.1, (x7.2.2.2.1, (x7.2.2.2.2.1, (x7.2.2.2.2.2.1, (x7.2.1, ())))))))))))
  else (Option.none)))
  else (Option.none))))
  else (x5 ((), ()))))))
def d20 : (Nat → (((List CH) × ((List CH) × (Unit × Unit))) → (Option ((Bool × Unit) × Unit)))) :=
  (fun (x0 : Nat) => (fun (x1 : ((List CH) × ((List CH) × (Unit × Unit)))) => (lt (((List.length x1.1) : Nat) : Int) fun (x2 : Int) =>
  (lt (((List.length x1.2.1) : Nat) : Int) fun (x3 : Int) =>
  (lt (x2 != x3) fun (x4 : Bool) =>
  (if (x4 = Bool.true) then
  (Option.some ((Bool.false, ()), ()))
  else (shr (fun (x5 : (Unit × Unit)) => (Option.some ((Bool.true, ()), ()))) (fun (x5 : ((Unit × Unit) → (Option ((Bool × Unit) × Unit)))) => (loopN (d20_L2 x0 x5) x0 ((), ((0 : Int), (x1.2.2.1, (x1.2.1, (x1.1, ((((List.length x1.1) : Nat) : Int), ())))))))))))))))
theorem k20 : c_fn Try.prog ⟨[(21, ⟨s21, d21⟩)], ks0⟩ Try.f20 s20 h20 = some d20 := by kernel_rfl
/-- slices.Equal[[]bulkhead/api.Port,bulkhead/api.Port] -/
def s23 : Sig := ⟨[((.sl 56 kPO), .val), ((.sl 56 kPO), .val)], [(.bool, .val)]⟩
 def h23 : Hint := (.seq .leaf
   (.seq (.seq .leaf
   (.cond none
     (.seq .leaf
     .leaf)
     .leaf))
   (.seq (.seq .leaf
   (.block ⟨[], []⟩ true
     (.loop ⟨[], [((13, 0), (.val (.int .i64))), ((1, 0), (.val (.sl 56 kPO))), ((0, 0), (.val (.sl 56 kPO))), ((12, 0), (.val (.int .i64)))]⟩
       (.seq .leaf
       (.seq (.cond none
         .leaf
         .leaf)
       (.seq (.block ⟨[], [((1, 0), (.val (.sl 56 kPO))), ((0, 0), (.val (.sl 56 kPO))), ((12, 0), (.val (.int .i64))), ((13, 0), (.val (.int .i64)))]⟩ true
         (.seq .leaf
         (.seq .leaf
         (.cond none
           (.seq .leaf
           .leaf)
           .leaf))))
       .leaf))))))
   (.seq .leaf
   .leaf))))
def d23_K1 (x6 : ((Unit × (Int × ((List PO) × ((List PO) × (Int × Unit))))) → (Option ((Bool × Unit) × Unit)))) : ((Unit × ((List PO) × ((List PO) × I2))) → (Option ((Bool × Unit) × Unit))) :=
  (fun (x9 : (Unit × ((List PO) × ((List PO) × I2)))) => (x6 ((), ((Go.IntKind.wrap Go.IntKind.i64 (x9.2.2.2.2.1 + (1 : Int))), (x9.2.1, (x9.2.2.1, (x9.2.2.2.1, ())))))))
def d23_L2 (x5 : ((Unit × Unit) → (Option ((Bool × Unit) × Unit)))) : (((Unit × (Int × ((List PO) × ((List PO) × (Int × Unit))))) → (Option ((Bool × Unit) × Unit))) → ((Unit × (Int × ((List PO) × ((List PO) × (Int × Unit))))) → (Option ((Bool × Unit) × Unit)))) :=
  (fun (x6 : ((Unit × (Int × ((List PO) × ((List PO) × (Int × Unit))))) → (Option ((Bool × Unit) × Unit)))) => (fun (x7 : (Unit × (Int × ((List PO) × ((List PO) × (Int × Unit)))))) => (lt (Decidable.decide (x7.2.1 < x7.2.2.2.2.1)) fun (x8 : Bool) =>
  (if (x8 = Bool.true) then
  (shr (d23_K1 x6) (fun (x9 : ((Unit × ((List PO) × ((List PO) × I2))) → (Option ((Bool × Unit) × Unit)))) => (if (((Decidable.decide ((0 : Int) ≤ x7.2.1)) && (Decidable.decide (x7.2.1 < (((List.length x7.2.2.2.1) : Nat) : Int)))) = Bool.true) then
  (lt (List.getD x7.2.2.2.1 (Int.toNat x7.2.1) ((0 : Int), ((0 : Int), (Bool.false, ((0 : Int), ((0 : Int), ((0 : Int), ()))))))) fun (x10 : PO) =>
  (if (((Decidable.decide ((0 : Int) ≤ x7.2.1)) && (Decidable.decide (x7.2.1 < (((List.length x7.2.2.1) : Nat) : Int)))) = Bool.true) then
  (lt (List.getD x7.2.2.1 (Int.toNat x7.2.1) ((0 : Int), ((0 : Int), (Bool.false, ((0 : Int), ((0 : Int), ((0 : Int), ()))))))) fun (x11 : PO) =>
  (lt (Bool.not ((x10.1 == x11.1) && ((x10.2.1 == x11.2.1) && ((x10.2.2.1 == x11.2.2.1) && ((x10.2.2.2.1 == x11.2.2.2.1) && ((x10.2.2.2.2.1 == x11.2.2.2.2.1) && ((x10.2.2.2.2.2.1 == x11.2.2.2.2.2.1) && Bool.true))))))) fun (x12 : Bool) =>
  (if (x12 = Bool.true) then
  (Option.some ((Bool.false, ()), ()))
  else (x9 ((), (x7.2.2.1, (x7.2.2.2.1, (x7.2.2.2.2.1, (x7.2.1, ())))))))))
  else (Option.none)))
  else (Option.none))))
  else (x5 ((), ()))))))
def d23 : (Nat → (((List PO) × ((List PO) × Unit)) → (Option ((Bool × Unit) × Unit)))) :=
  (fun (x0 : Nat) => (fun (x1 : ((List PO) × ((List PO) × Unit))) => (lt (((List.length x1.1) : Nat) : Int) fun (x2 : Int) =>
  (lt (((List.length x1.2.1) : Nat) : Int) fun (x3 : Int) =>
  (lt (x2 != x3) fun (x4 : Bool) =>
  (if (x4 = Bool.true) then
  (Option.some ((Bool.false, ()), ()))
  else (shr (fun (x5 : (Unit × Unit)) => (Option.some ((Bool.true, ()), ()))) (fun (x5 : ((Unit × Unit) → (Option ((Bool × Unit) × Unit)))) => (loopN (d23_L2 x5) x0 ((), ((0 : Int), (x1.2.1, (x1.1, ((((List.length x1.1) : Nat) : Int), ()))))))))))))))
theorem k23 : c_fn Try.prog ⟨[], ks0⟩ Try.f23 s23 h23 = some d23 := by kernel_rfl
/-- slices.Equal[[]int64,int64] -/
def s26 : Sig := ⟨[((.sl 2 (.int .i64)), .val), ((.sl 2 (.int .i64)), .val)], [(.bool, .val)]⟩
 def h26 : Hint := (.seq .leaf
   (.seq (.seq .leaf
   (.cond none
     (.seq .leaf
     .leaf)
     .leaf))
   (.seq (.seq .leaf
   (.block ⟨[], []⟩ true
     (.loop ⟨[], [((13, 0), (.val (.int .i64))), ((1, 0), (.val (.sl 2 (.int .i64)))), ((0, 0), (.val (.sl 2 (.int .i64)))), ((12, 0), (.val (.int .i64)))]⟩
       (.seq .leaf
       (.seq (.cond none
         .leaf
         .leaf)
       (.seq (.block ⟨[], [((1, 0), (.val (.sl 2 (.int .i64)))), ((0, 0), (.val (.sl 2 (.int .i64)))), ((12, 0), (.val (.int .i64))), ((13, 0), (.val (.int .i64)))]⟩ true
         (.seq .leaf
         (.seq .leaf
         (.cond none
           (.seq .leaf
           .leaf)
           .leaf))))
       .leaf))))))
   (.seq .leaf
   .leaf))))
def d26_K1 (x6 : ((Unit × (Int × ((List Int) × ((List Int) × (Int × Unit))))) → (Option ((Bool × Unit) × Unit)))) : ((Unit × ((List Int) × ((List Int) × I2))) → (Option ((Bool × Unit) × Unit))) :=
  (fun (x9 : (Unit × ((List Int) × ((List Int) × I2)))) => (x6 ((), ((Go.IntKind.wrap Go.IntKind.i64 (x9.2.2.2.2.1 + (1 : Int))), (x9.2.1, (x9.2.2.1, (x9.2.2.2.1, ())))))))
def d26_L2 (x5 : ((Unit × Unit) → (Option ((Bool × Unit) × Unit)))) : (((Unit × (Int × ((List Int) × ((List Int) × (Int × Unit))))) → (Option ((Bool × Unit) × Unit))) → ((Unit × (Int × ((List Int) × ((List Int) × (Int × Unit))))) → (Option ((Bool × Unit) × Unit)))) :=
  (fun (x6 : ((Unit × (Int × ((List Int) × ((List Int) × (Int × Unit))))) → (Option ((Bool × Unit) × Unit)))) => (fun (x7 : (Unit × (Int × ((List Int) × ((List Int) × (Int × Unit)))))) => (lt (Decidable.decide (x7.2.1 < x7.2.2.2.2.1)) fun (x8 : Bool) =>
  (if (x8 = Bool.true) then
  (shr (d26_K1 x6) (fun (x9 : ((Unit × ((List Int) × ((List Int) × I2))) → (Option ((Bool × Unit) × Unit)))) => (if (((Decidable.decide ((0 : Int) ≤ x7.2.1)) && (Decidable.decide (x7.2.1 < (((List.length x7.2.2.2.1) : Nat) : Int)))) = Bool.true) then
  (lt (List.getD x7.2.2.2.1 (Int.toNat x7.2.1) (0 : Int)) fun (x10 : Int) =>
  (if (((Decidable.decide ((0 : Int) ≤ x7.2.1)) && (Decidable.decide (x7.2.1 < (((List.length x7.2.2.1) : Nat) : Int)))) = Bool.true) then
  (lt (List.getD x7.2.2.1 (Int.toNat x7.2.1) (0 : Int)) fun (x11 : Int) =>
  (lt (x10 != x11) fun (x12 : Bool) =>
  (if (x12 = Bool.true) then
  (Option.some ((Bool.false, ()), ()))
  else (x9 ((), (x7.2.2.1, (x7.2.2.2.1, (x7.2.2.2.2.1, (x7.2.1, ())))))))))
  else (Option.none)))
  else (Option.none))))
  else (x5 ((), ()))))))
def d26 : (Nat → (((List Int) × ((List Int) × Unit)) → (Option ((Bool × Unit) × Unit)))) :=
  (fun (x0 : Nat) => (fun (x1 : ((List Int) × ((List Int) × Unit))) => (lt (((List.length x1.1) : Nat) : Int) fun (x2 : Int) =>
  (lt (((List.length x1.2.1) : Nat) : Int) fun (x3 : Int) =>
  (lt (x2 != x3) fun (x4 : Bool) =>
  (if (x4 = Bool.true) then
  (Option.some ((Bool.false, ()), ()))
  else (shr (fun (x5 : (Unit × Unit)) => (Option.some ((Bool.true, ()), ()))) (fun (x5 : ((Unit × Unit) → (Option ((Bool × Unit) × Unit)))) => (loopN (d26_L2 x5) x0 ((), ((0 : Int), (x1.2.1, (x1.1, ((((List.length x1.1) : Nat) : Int), ()))))))))))))))
theorem k26 : c_fn Try.prog ⟨[], ks0⟩ Try.f26 s26 h26 = some d26 := by kernel_rfl
/-- slices.Equal[[]bulkhead/api.Instr,bulkhead/api.Instr] -/
def s38 : Sig := ⟨[((.sl 76 kIS), .val), ((.sl 76 kIS), .val)], [(.bool, .val)]⟩
 def h38 : Hint := (.seq .leaf
   (.seq (.seq .leaf
   (.cond none
     (.seq .leaf
     .leaf)
     .leaf))
   (.seq (.seq .leaf
   (.block ⟨[], []⟩ true
     (.loop ⟨[], [((13, 0), (.val (.int .i64))), ((1, 0), (.val (.sl 76 kIS))), ((0, 0), (.val (.sl 76 kIS))), ((12, 0), (.val (.int .i64)))]⟩
       (.seq .leaf
       (.seq (.cond none
         .leaf
         .leaf)
       (.seq (.block ⟨[], [((1, 0), (.val (.sl 76 kIS))), ((0, 0), (.val (.sl 76 kIS))), ((12, 0), (.val (.int .i64))), ((13, 0), (.val (.int .i64)))]⟩ true
         (.seq .leaf
         (.seq .leaf
         (.cond none
           (.seq .leaf
           .leaf)
           .leaf))))
       .leaf))))))
   (.seq .leaf
   .leaf))))
def d38_K1 (x6 : ((Unit × (Int × ((List IS) × ((List IS) × (Int × Unit))))) → (Option ((Bool × Unit) × Unit)))) : ((Unit × ((List IS) × ((List IS) × I2))) → (Option ((Bool × Unit) × Unit))) :=
  (fun (x9 : (Unit × ((List IS) × ((List IS) × I2)))) => (x6 ((), ((Go.IntKind.wrap Go.IntKind.i64 (x9.2.2.2.2.1 + (1 : Int))), (x9.2.1, (x9.2.2.1, (x9.2.2.2.1, ())))))))
def d38_L2 (x5 : ((Unit × Unit) → (Option ((Bool × Unit) × Unit)))) : (((Unit × (Int × ((List IS) × ((List IS) × (Int × Unit))))) → (Option ((Bool × Unit) × Unit))) → ((Unit × (Int × ((List IS) × ((List IS) × (Int × Unit))))) → (Option ((Bool × Unit) × Unit)))) :=
  (fun (x6 : ((Unit × (Int × ((List IS) × ((List IS) × (Int × Unit))))) → (Option ((Bool × Unit) × Unit)))) => (fun (x7 : (Unit × (Int × ((List IS) × ((List IS) × (Int × Unit)))))) => (lt (Decidable.decide (x7.2.1 < x7.2.2.2.2.1)) fun (x8 : Bool) =>
  (if (x8 = Bool.true) then
  (shr (d38_K1 x6) (fun (x9 : ((Unit × ((List IS) × ((List IS) × I2))) → (Option ((Bool × Unit) × Unit)))) => (if (((Decidable.decide ((0 : Int) ≤ x7.2.1)) && (Decidable.decide (x7.2.1 < (((List.length x7.2.2.2.1) : Nat) : Int)))) = Bool.true) then
  (lt (List.getD x7.2.2.2.1 (Int.toNat x7.2.1) ((0 : Int), ((0 : Int), ((0 : Int), ((0 : Int), ((0 : Int), ())))))) fun (x10 : IS) =>
  (if (((Decidable.decide ((0 : Int) ≤ x7.2.1)) && (Decidable.decide (x7.2.1 < (((List.length x7.2.2.1) : Nat) : Int)))) = Bool.true) then
  (lt (List.getD x7.2.2.1 (Int.toNat x7.2.1) ((0 : Int), ((0 : Int), ((0 : Int), ((0 : Int), ((0 : Int), ())))))) fun (x11 : IS) =>
  (lt (Bool.not ((x10.1 == x11.1) && ((x10.2.1 == x11.2.1) && ((x10.2.2.1 == x11.2.2.1) && ((x10.2.2.2.1 == x11.2.2.2.1) && ((x10.2.2.2.2.1 == x11.2.2.2.2.1) && Bool.true)))))) fun (x12 : Bool) =>
  (if (x12 = Bool.true) then
  (Option.some ((Bool.false, ()), ()))
  else (x9 ((), (x7.2.2.1, (x7.2.2.2.1, (x7.2.2.2.2.1, (x7.2.1, ())))))))))
  else (Option.none)))
  else (Option.none))))
  else (x5 ((), ()))))))
def d38 : (Nat → (((List IS) × ((List IS) × Unit)) → (Option ((Bool × Unit) × Unit)))) :=
  (fun (x0 : Nat) => (fun (x1 : ((List IS) × ((List IS) × Unit))) => (lt (((List.length x1.1) : Nat) : Int) fun (x2 : Int) =>
  (lt (((List.length x1.2.1) : Nat) : Int) fun (x3 : Int) =>
  (lt (x2 != x3) fun (x4 : Bool) =>
  (if (x4 = Bool.true) then
  (Option.some ((Bool.false, ()), ()))
  else (shr (fun (x5 : (Unit × Unit)) => (Option.some ((Bool.true, ()), ()))) (fun (x5 : ((Unit × Unit) → (Option ((Bool × Unit) × Unit)))) => (loopN (d38_L2 x5) x0 ((), ((0 : Int), (x1.2.1, (x1.1, ((((List.length x1.1) : Nat) : Int), ()))))))))))))))
theorem k38 : c_fn Try.prog ⟨[], ks0⟩ Try.f38 s38 h38 = some d38 := by kernel_rfl
/-- slices.Equal[[]bulkhead/api.Proc,bulkhead/api.Proc] -/
def s39 : Sig := ⟨[((.sl 78 kPC), .val), ((.sl 78 kPC), .val)], [(.bool, .val)]⟩
 def h39 : Hint := (.seq .leaf
   (.seq (.seq .leaf
   (.cond none
     (.seq .leaf
     .leaf)
     .leaf))
   (.seq (.seq .leaf
   (.block ⟨[], []⟩ true
     (.loop ⟨[], [((13, 0), (.val (.int .i64))), ((1, 0), (.val (.sl 78 kPC))), ((0, 0), (.val (.sl 78 kPC))), ((12, 0), (.val (.int .i64)))]⟩
       (.seq .leaf
       (.seq (.cond none
         .leaf
         .leaf)
       (.seq (.block ⟨[], [((1, 0), (.val (.sl 78 kPC))), ((0, 0), (.val (.sl 78 kPC))), ((12, 0), (.val (.int .i64))), ((13, 0), (.val (.int .i64)))]⟩ true
         (.seq .leaf
         (.seq .leaf
         (.cond none
           (.seq .leaf
           .leaf)
           .leaf))))
       .leaf))))))
   (.seq .leaf
   .leaf))))
def d39_K1 (x6 : ((Unit × (Int × ((List PC) × ((List PC) × (Int × Unit))))) → (Option ((Bool × Unit) × Unit)))) : ((Unit × ((List PC) × ((List PC) × I2))) → (Option ((Bool × Unit) × Unit))) :=
  (fun (x9 : (Unit × ((List PC) × ((List PC) × I2)))) => (x6 ((), ((Go.IntKind.wrap Go.IntKind.i64 (x9.2.2.2.2.1 + (1 : Int))), (x9.2.1, (x9.2.2.1, (x9.2.2.2.1, ())))))))
def d39_L2 (x5 : ((Unit × Unit) → (Option ((Bool × Unit) × Unit)))) : (((Unit × (Int × ((List PC) × ((List PC) × (Int × Unit))))) → (Option ((Bool × Unit) × Unit))) → ((Unit × (Int × ((List PC) × ((List PC) × (Int × Unit))))) → (Option ((Bool × Unit) × Unit)))) :=
  (fun (x6 : ((Unit × (Int × ((List PC) × ((List PC) × (Int × Unit))))) → (Option ((Bool × Unit) × Unit)))) => (fun (x7 : (Unit × (Int × ((List PC) × ((List PC) × (Int × Unit)))))) => (lt (Decidable.decide (x7.2.1 < x7.2.2.2.2.1)) fun (x8 : Bool) =>
  (if (x8 = Bool.true) then
  (shr (d39_K1 x6) (fun (x9 : ((Unit × ((List PC) × ((List PC) × I2))) → (Option ((Bool × Unit) × Unit)))) => (if (((Decidable.decide ((0 : Int) ≤ x7.2.1)) && (Decidable.decide (x7.2.1 < (((List.length x7.2.2.2.1) : Nat) : Int)))) = Bool.true) then
  (lt (List.getD x7.2.2.2.1 (Int.toNat x7.2.1) ((0 : Int), ((0 : Int), ((0 : Int), ((0 : Int), ((0 : Int), (Bool.false, ()))))))) fun (x10 : PC) =>
  (if (((Decidable.decide ((0 : Int) ≤ x7.2.1)) && (Decidable.decide (x7.2.1 < (((List.length x7.2.2.1) : Nat) : Int)))) = Bool.true) then
  (lt (List.getD x7.2.2.1 (Int.toNat x7.2.1) ((0 : Int), ((0 : Int), ((0 : Int), ((0 : Int), ((0 : Int), (Bool.false, ()))))))) fun (x11 : PC) =>
  (lt (Bool.not ((x10.1 == x11.1) && ((x10.2.1 == x11.2.1) && ((x10.2.2.1 == x11.2.2.1) && ((x10.2.2.2.1 == x11.2.2.2.1) && ((x10.2.2.2.2.1 == x11.2.2.2.2.1) && ((x10.2.2.2.2.2.1 == x11.2.2.2.2.2.1) && Bool.true))))))) fun (x12 : Bool) =>
  (if (x12 = Bool.true) then
  (Option.some ((Bool.false, ()), ()))
  else (x9 ((), (x7.2.2.1, (x7.2.2.2.1, (x7.2.2.2.2.1, (x7.2.1, ())))))))))
  else (Option.none)))
  else (Option.none))))
  else (x5 ((), ()))))))
def d39 : (Nat → (((List PC) × ((List PC) × Unit)) → (Option ((Bool × Unit) × Unit)))) :=
  (fun (x0 : Nat) => (fun (x1 : ((List PC) × ((List PC) × Unit))) => (lt (((List.length x1.1) : Nat) : Int) fun (x2 : Int) =>
  (lt (((List.length x1.2.1) : Nat) : Int) fun (x3 : Int) =>
  (lt (x2 != x3) fun (x4 : Bool) =>
  (if (x4 = Bool.true) then
  (Option.some ((Bool.false, ()), ()))
  else (shr (fun (x5 : (Unit × Unit)) => (Option.some ((Bool.true, ()), ()))) (fun (x5 : ((Unit × Unit) → (Option ((Bool × Unit) × Unit)))) => (loopN (d39_L2 x5) x0 ((), ((0 : Int), (x1.2.1, (x1.1, ((((List.length x1.1) : Nat) : Int), ()))))))))))))))
theorem k39 : c_fn Try.prog ⟨[], ks0⟩ Try.f39 s39 h39 = some d39 := by kernel_rfl
/-- slices.Equal[[]bulkhead/api.Sem,bulkhead/api.Sem] -/
def s40 : Sig := ⟨[((.sl 80 kI2), .val), ((.sl 80 kI2), .val)], [(.bool, .val)]⟩
 def h40 : Hint := (.seq .leaf
   (.seq (.seq .leaf
   (.cond none
     (.seq .leaf
     .leaf)
     .leaf))
   (.seq (.seq .leaf
   (.block ⟨[], []⟩ true
     (.loop ⟨[], [((13, 0), (.val (.int .i64))), ((1, 0), (.val (.sl 80 kI2))), ((0, 0), (.val (.sl 80 kI2))), ((12, 0), (.val (.int .i64)))]⟩
       (.seq .leaf
       (.seq (.cond none
         .leaf
         .leaf)
       (.seq (.block ⟨[], [((1, 0), (.val (.sl 80 kI2))), ((0, 0), (.val (.sl 80 kI2))), ((12, 0), (.val (.int .i64))), ((13, 0), (.val (.int .i64)))]⟩ true
         (.seq .leaf
         (.seq .leaf
         (.cond none
           (.seq .leaf
           .leaf)
           .leaf))))
       .leaf))))))
   (.seq .leaf
   .leaf))))
def d40_K1 (x6 : ((Unit × (Int × ((List I2) × ((List I2) × (Int × Unit))))) → (Option ((Bool × Unit) × Unit)))) : ((Unit × ((List I2) × ((List I2) × I2))) → (Option ((Bool × Unit) × Unit))) :=
  (fun (x9 : (Unit × ((List I2) × ((List I2) × I2)))) => (x6 ((), ((Go.IntKind.wrap Go.IntKind.i64 (x9.2.2.2.2.1 + (1 : Int))), (x9.2.1, (x9.2.2.1, (x9.2.2.2.1, ())))))))
def d40_L2 (x5 : ((Unit × Unit) → (Option ((Bool × Unit) × Unit)))) : (((Unit × (Int × ((List I2) × ((List I2) × (Int × Unit))))) → (Option ((Bool × Unit) × Unit))) → ((Unit × (Int × ((List I2) × ((List I2) × (Int × Unit))))) → (Option ((Bool × Unit) × Unit)))) :=
  (fun (x6 : ((Unit × (Int × ((List I2) × ((List I2) × (Int × Unit))))) → (Option ((Bool × Unit) × Unit)))) => (fun (x7 : (Unit × (Int × ((List I2) × ((List I2) × (Int × Unit)))))) => (lt (Decidable.decide (x7.2.1 < x7.2.2.2.2.1)) fun (x8 : Bool) =>
  (if (x8 = Bool.true) then
  (shr (d40_K1 x6) (fun (x9 : ((Unit × ((List I2) × ((List I2) × I2))) → (Option ((Bool × Unit) × Unit)))) => (if (((Decidable.decide ((0 : Int) ≤ x7.2.1)) && (Decidable.decide (x7.2.1 < (((List.length x7.2.2.2.1) : Nat) : Int)))) = Bool.true) then
  (lt (List.getD x7.2.2.2.1 (Int.toNat x7.2.1) ((0 : Int), ((0 : Int), ()))) fun (x10 : I2) =>
  (if (((Decidable.decide ((0 : Int) ≤ x7.2.1)) && (Decidable.decide (x7.2.1 < (((List.length x7.2.2.1) : Nat) : Int)))) = Bool.true) then
  (lt (List.getD x7.2.2.1 (Int.toNat x7.2.1) ((0 : Int), ((0 : Int), ()))) fun (x11 : I2) =>
  (lt (Bool.not ((x10.1 == x11.1) && ((x10.2.1 == x11.2.1) && Bool.true))) fun (x12 : Bool) =>
  (if (x12 = Bool.true) then
  (Option.some ((Bool.false, ()), ()))
  else (x9 ((), (x7.2.2.1, (x7.2.2.2.1, (x7.2.2.2.2.1, (x7.2.1, ())))))))))
  else (Option.none)))
  else (Option.none))))
  else (x5 ((), ()))))))
def d40 : (Nat → (((List I2) × ((List I2) × Unit)) → (Option ((Bool × Unit) × Unit)))) :=
  (fun (x0 : Nat) => (fun (x1 : ((List I2) × ((List I2) × Unit))) => (lt (((List.length x1.1) : Nat) : Int) fun (x2 : Int) =>
  (lt (((List.length x1.2.1) : Nat) : Int) fun (x3 : Int) =>
  (lt (x2 != x3) fun (x4 : Bool) =>
  (if (x4 = Bool.true) then
  (Option.some ((Bool.false, ()), ()))
  else (shr (fun (x5 : (Unit × Unit)) => (Option.some ((Bool.true, ()), ()))) (fun (x5 : ((Unit × Unit) → (Option ((Bool × Unit) × Unit)))) => (loopN (d40_L2 x5) x0 ((), ((0 : Int), (x1.2.1, (x1.1, ((((List.length x1.1) : Nat) : Int), ()))))))))))))))
theorem k40 : c_fn Try.prog ⟨[], ks0⟩ Try.f40 s40 h40 = some d40 := by kernel_rfl
/-- slices.Equal[[]bool,bool] -/
def s41 : Sig := ⟨[((.sl 4 .bool), .val), ((.sl 4 .bool), .val)], [(.bool, .val)]⟩
 def h41 : Hint := (.seq .leaf
   (.seq (.seq .leaf
   (.cond none
     (.seq .leaf
     .leaf)
     .leaf))
   (.seq (.seq .leaf
   (.block ⟨[], []⟩ true
     (.loop ⟨[], [((13, 0), (.val (.int .i64))), ((1, 0), (.val (.sl 4 .bool))), ((0, 0), (.val (.sl 4 .bool))), ((12, 0), (.val (.int .i64)))]⟩
       (.seq .leaf
       (.seq (.cond none
         .leaf
         .leaf)
       (.seq (.block ⟨[], [((1, 0), (.val (.sl 4 .bool))), ((0, 0), (.val (.sl 4 .bool))), ((12, 0), (.val (.int .i64))), ((13, 0), (.val (.int .i64)))]⟩ true
         (.seq .leaf
         (.seq .leaf
         (.cond none
           (.seq .leaf
           .leaf)
           .leaf))))
       .leaf))))))
   (.seq .leaf
   .leaf))))
def d41_K1 (x6 : ((Unit × (Int × ((List Bool) × ((List Bool) × (Int × Unit))))) → (Option ((Bool × Unit) × Unit)))) : ((Unit × ((List Bool) × ((List Bool) × I2))) → (Option ((Bool × Unit) × Unit))) :=
  (fun (x9 : (Unit × ((List Bool) × ((List Bool) × I2)))) => (x6 ((), ((Go.IntKind.wrap Go.IntKind.i64 (x9.2.2.2.2.1 + (1 : Int))), (x9.2.1, (x9.2.2.1, (x9.2.2.2.1, ())))))))
def d41_L2 (x5 : ((Unit × Unit) → (Option ((Bool × Unit) × Unit)))) : (((Unit × (Int × ((List Bool) × ((List Bool) × (Int × Unit))))) → (Option ((Bool × Unit) × Unit))) → ((Unit × (Int × ((List Bool) × ((List Bool) × (Int × Unit))))) → (Option ((Bool × Unit) × Unit)))) :=
  (fun (x6 : ((Unit × (Int × ((List Bool) × ((List Bool) × (Int × Unit))))) → (Option ((Bool × Unit) × Unit)))) => (fun (x7 : (Unit × (Int × ((List Bool) × ((List Bool) × (Int × Unit)))))) => (lt (Decidable.decide (x7.2.1 < x7.2.2.2.2.1)) fun (x8 : Bool) =>
  (if (x8 = Bool.true) then
  (shr (d41_K1 x6) (fun (x9 : ((Unit × ((List Bool) × ((List Bool) × I2))) → (Option ((Bool × Unit) × Unit)))) => (if (((Decidable.decide ((0 : Int) ≤ x7.2.1)) && (Decidable.decide (x7.2.1 < (((List.length x7.2.2.2.1) : Nat) : Int)))) = Bool.true) then
  (lt (List.getD x7.2.2.2.1 (Int.toNat x7.2.1) Bool.false) fun (x10 : Bool) =>
  (if (((Decidable.decide ((0 : Int) ≤ x7.2.1)) && (Decidable.decide (x7.2.1 < (((List.length x7.2.2.1) : Nat) : Int)))) = Bool.true) then
  (lt (List.getD x7.2.2.1 (Int.toNat x7.2.1) Bool.false) fun (x11 : Bool) =>
  (lt (Bool.not (x10 == x11)) fun (x12 : Bool) =>
  (if (x12 = Bool.true) then
  (Option.some ((Bool.false, ()), ()))
  else (x9 ((), (x7.2.2.1, (x7.2.2.2.1, (x7.2.2.2.2.1, (x7.2.1, ())))))))))
  else (Option.none)))
  else (Option.none))))
  else (x5 ((), ()))))))
def d41 : (Nat → (((List Bool) × ((List Bool) × Unit)) → (Option ((Bool × Unit) × Unit)))) :=
  (fun (x0 : Nat) => (fun (x1 : ((List Bool) × ((List Bool) × Unit))) => (lt (((List.length x1.1) : Nat) : Int) fun (x2 : Int) =>
  (lt (((List.length x1.2.1) : Nat) : Int) fun (x3 : Int) =>
  (lt (x2 != x3) fun (x4 : Bool) =>
  (if (x4 = Bool.true) then
  (Option.some ((Bool.false, ()), ()))
  else (shr (fun (x5 : (Unit × Unit)) => (Option.some ((Bool.true, ()), ()))) (fun (x5 : ((Unit × Unit) → (Option ((Bool × Unit) × Unit)))) => (loopN (d41_L2 x5) x0 ((), ((0 : Int), (x1.2.1, (x1.1, ((((List.length x1.1) : Nat) : Int), ()))))))))))))))
theorem k41 : c_fn Try.prog ⟨[], ks0⟩ Try.f41 s41 h41 = some d41 := by kernel_rfl
/-- slices.Equal[[]bulkhead/api.Buffer,bulkhead/api.Buffer] -/
def s42 : Sig := ⟨[((.sl 82 kI2), .val), ((.sl 82 kI2), .val)], [(.bool, .val)]⟩
 def h42 : Hint := (.seq .leaf
   (.seq (.seq .leaf
   (.cond none
     (.seq .leaf
     .leaf)
     .leaf))
   (.seq (.seq .leaf
   (.block ⟨[], []⟩ true
     (.loop ⟨[], [((13, 0), (.val (.int .i64))), ((1, 0), (.val (.sl 82 kI2))), ((0, 0), (.val (.sl 82 kI2))), ((12, 0), (.val (.int .i64)))]⟩
       (.seq .leaf
       (.seq (.cond none
         .leaf
         .leaf)
       (.seq (.block ⟨[], [((1, 0), (.val (.sl 82 kI2))), ((0, 0), (.val (.sl 82 kI2))), ((12, 0), (.val (.int .i64))), ((13, 0), (.val (.int .i64)))]⟩ true
         (.seq .leaf
         (.seq .leaf
         (.cond none
           (.seq .leaf
           .leaf)
           .leaf))))
       .leaf))))))
   (.seq .leaf
   .leaf))))
def d42_K1 (x6 : ((Unit × (Int × ((List I2) × ((List I2) × (Int × Unit))))) → (Option ((Bool × Unit) × Unit)))) : ((Unit × ((List I2) × ((List I2) × I2))) → (Option ((Bool × Unit) × Unit))) :=
  (fun (x9 : (Unit × ((List I2) × ((List I2) × I2)))) => (x6 ((), ((Go.IntKind.wrap Go.IntKind.i64 (x9.2.2.2.2.1 + (1 : Int))), (x9.2.1, (x9.2.2.1, (x9.2.2.2.1, ())))))))
def d42_L2 (x5 : ((Unit × Unit) → (Option ((Bool × Unit) × Unit)))) : (((Unit × (Int × ((List I2) × ((List I2) × (Int × Unit))))) → (Option ((Bool × Unit) × Unit))) → ((Unit × (Int × ((List I2) × ((List I2) × (Int × Unit))))) → (Option ((Bool × Unit) × Unit)))) :=
  (fun (x6 : ((Unit × (Int × ((List I2) × ((List I2) × (Int × Unit))))) → (Option ((Bool × Unit) × Unit)))) => (fun (x7 : (Unit × (Int × ((List I2) × ((List I2) × (Int × Unit)))))) => (lt (Decidable.decide (x7.2.1 < x7.2.2.2.2.1)) fun (x8 : Bool) =>
  (if (x8 = Bool.true) then
  (shr (d42_K1 x6) (fun (x9 : ((Unit × ((List I2) × ((List I2) × I2))) → (Option ((Bool × Unit) × Unit)))) => (if (((Decidable.decide ((0 : Int) ≤ x7.2.1)) && (Decidable.decide (x7.2.1 < (((List.length x7.2.2.2.1) : Nat) : Int)))) = Bool.true) then
  (lt (List.getD x7.2.2.2.1 (Int.toNat x7.2.1) ((0 : Int), ((0 : Int), ()))) fun (x10 : I2) =>
  (if (((Decidable.decide ((0 : Int) ≤ x7.2.1)) && (Decidable.decide (x7.2.1 < (((List.length x7.2.2.1) : Nat) : Int)))) = Bool.true) then
  (lt (List.getD x7.2.2.1 (Int.toNat x7.2.1) ((0 : Int), ((0 : Int), ()))) fun (x11 : I2) =>
  (lt (Bool.not ((x10.1 == x11.1) && ((x10.2.1 == x11.2.1) && Bool.true))) fun (x12 : Bool) =>
  (if (x12 = Bool.true) then
  (Option.some ((Bool.false, ()), ()))
  else (x9 ((), (x7.2.2.1, (x7.2.2.2.1, (x7.2.2.2.2.1, (x7.2.1, ())))))))))
  else (Option.none)))
  else (Option.none))))
  else (x5 ((), ()))))))
def d42 : (Nat → (((List I2) × ((List I2) × Unit)) → (Option ((Bool × Unit) × Unit)))) :=
  (fun (x0 : Nat) => (fun (x1 : ((List I2) × ((List I2) × Unit))) => (lt (((List.length x1.1) : Nat) : Int) fun (x2 : Int) =>
  (lt (((List.length x1.2.1) : Nat) : Int) fun (x3 : Int) =>
  (lt (x2 != x3) fun (x4 : Bool) =>
  (if (x4 = Bool.true) then
  (Option.some ((Bool.false, ()), ()))
  else (shr (fun (x5 : (Unit × Unit)) => (Option.some ((Bool.true, ()), ()))) (fun (x5 : ((Unit × Unit) → (Option ((Bool × Unit) × Unit)))) => (loopN (d42_L2 x5) x0 ((), ((0 : Int), (x1.2.1, (x1.1, ((((List.length x1.1) : Nat) : Int), ()))))))))))))))
theorem k42 : c_fn Try.prog ⟨[], ks0⟩ Try.f42 s42 h42 = some d42 := by kernel_rfl
/-- bulkhead/flow.alikePart -/
def s24 : Sig := ⟨[(kPA, .val), (kPA, .val)], [(.bool, .val)]⟩
 def h24 : Hint := (.seq .leaf
   (.seq .leaf
   (.seq .leaf
   (.seq .leaf
   .leaf))))
def d24 : (Nat → ((PA × (PA × Unit)) → (Option ((Bool × Unit) × Unit)))) :=
  (fun (x0 : Nat) => (fun (x1 : (PA × (PA × Unit))) => (lt (x1.1.2.1 == x1.2.1.2.1) fun (x2 : Bool) =>
  (lt (x1.1.2.2.1 == x1.2.1.2.2.1) fun (x3 : Bool) =>
  (lt (if (x2 = Bool.true) then
  x3
  else Bool.false) fun (x4 : Bool) =>
  (lt (x1.1.2.2.2.2.2.2.1 == x1.2.1.2.2.2.2.2.2.1) fun (x5 : Bool) =>
  (lt (if (x4 = Bool.true) then
  x5
  else Bool.false) fun (x6 : Bool) =>
  (lt (Go.Lift.allEq (fun (x7 : Int) => (fun (x8 : Int) => (x7 == x8))) x1.1.2.2.2.2.2.2.2.1 x1.2.1.2.2.2.2.2.2.2.1) fun (x7 : Bool) =>
  (lt (if (x6 = Bool.true) then
  x7
  else Bool.false) fun (x8 : Bool) =>
  (lt ((x1.1.1.1 == x1.2.1.1.1) && ((x1.1.1.2.1 == x1.2.1.1.2.1) && ((x1.1.1.2.2.1 == x1.2.1.1.2.2.1) && ((x1.1.1.2.2.2.1 == x1.2.1.1.2.2.2.1) && Bool.true)))) fun (x9 : Bool) =>
  (lt (if (x8 = Bool.true) then
  x9
  else Bool.false) fun (x10 : Bool) =>
  (Option.bind (d26 x0 (x1.1.2.2.2.1, (x1.2.1.2.2.2.1, ()))) fun (x11 : ((Bool × Unit) × Unit)) =>
  (Option.bind (if (((x11.1.1 == Bool.true) && Bool.true) = Bool.true) then
  (d38 x0 (x1.1.2.2.2.2.1, (x1.2.1.2.2.2.2.1, ())))
  else (Option.some ((Bool.false, ()), ()))) fun (x12 : ((Bool × Unit) × Unit)) =>
  (lt (if (x11.1.1 = Bool.true) then
  x12.1.1
  else Bool.false) fun (x13 : Bool) =>
  (Option.bind (if (((x13 == Bool.true) && Bool.true) = Bool.true) then
  (d39 x0 (x1.1.2.2.2.2.2.1, (x1.2.1.2.2.2.2.2.1, ())))
  else (Option.some ((Bool.false, ()), ()))) fun (x14 : ((Bool × Unit) × Unit)) =>
  (lt (if (x13 = Bool.true) then
  x14.1.1
  else Bool.false) fun (x15 : Bool) =>
  (lt (if (x10 = Bool.true) then
  x15
  else Bool.false) fun (x16 : Bool) =>
  (Option.bind (if (((x16 == Bool.true) && Bool.true) = Bool.true) then
  (d40 x0 (x1.1.2.2.2.2.2.2.2.2.1, (x1.2.1.2.2.2.2.2.2.2.2.1, ())))
  else (Option.some ((Bool.false, ()), ()))) fun (x17 : ((Bool × Unit) × Unit)) =>
  (lt (if (x16 = Bool.true) then
  x17.1.1
  else Bool.false) fun (x18 : Bool) =>
  (Option.bind (if (((x18 == Bool.true) && Bool.true) = Bool.true) then
  (d41 x0 (x1.1.2.2.2.2.2.2.2.2.2.1, (x1.2.1.2.2.2.2.2.2.2.2.2.1, ())))
  else (Option.some ((Bool.false, ()), ()))) fun (x19 : ((Bool × Unit) × Unit)) =>
  (lt (if (x18 = Bool.true) then
  x19.1.1
  else Bool.false) fun (x20 : Bool) =>
  (Option.bind (if (((x20 == Bool.true) && Bool.true) = Bool.true) then
  (d42 x0 (x1.1.2.2.2.2.2.2.2.2.2.2.1, (x1.2.1.2.2.2.2.2.2.2.2.2.2.1, ())))
  else (Option.some ((Bool.false, ()), ()))) fun (x21 : ((Bool × Unit) × Unit)) =>
  (Option.some (((if (x20 = Bool.true) then
  x21.1.1
  else Bool.false), ()), ()))))))))))))))))))))))))
theorem k24 : c_fn Try.prog ⟨[(26, ⟨s26, d26⟩), (38, ⟨s38, d38⟩), (39, ⟨s39, d39⟩), (40, ⟨s40, d40⟩), (41, ⟨s41, d41⟩), (42, ⟨s42, d42⟩)], ks0⟩ Try.f24 s24 h24 = some d24 := by kernel_rfl
/-- bulkhead/flow.Alike -/
def s6 : Sig := ⟨[(kIM, .val), (kIM, .val), ((.int .i64), .val)], [(.bool, .val), ((.int .i64), .val)]⟩
 def h6 : Hint := (.seq .leaf
   (.seq .leaf
   (.seq (.seq .leaf
   (.cond none
     (.seq .leaf
     .leaf)
     .leaf))
   (.seq .leaf
   (.seq .leaf
   (.seq (.seq .leaf
   (.cond none
     (.seq .leaf
     .leaf)
     .leaf))
   (.seq (.seq .leaf
   (.block ⟨[], []⟩ true
     (.loop ⟨[((.ptr 26 kIM), (.ow .sh), (4, 0)), ((.ptr 26 kIM), (.ow .sh), (3, 0)), ((.sl 3 (.int .i64)), (.ow .sh), (47, 0))], [((49, 0), (.val (.int .i64))), ((4, 0), (.own 0)), ((3, 0), (.own 1)), ((47, 0), (.own 2)), ((48, 0), (.val (.int .i64)))]⟩
       (.seq .leaf
       (.seq (.cond none
         .leaf
         .leaf)
       (.seq (.block ⟨[((.ptr 26 kIM), (.ow .sh), (4, 0)), ((.ptr 26 kIM), (.ow .sh), (3, 0)), ((.sl 3 (.int .i64)), (.ow .sh), (47, 0))], [((4, 0), (.own 0)), ((3, 0), (.own 1)), ((47, 0), (.own 2)), ((48, 0), (.val (.int .i64))), ((49, 0), (.val (.int .i64)))]⟩ true
         (.seq .leaf
         (.seq .leaf
         (.cond none
           (.seq .leaf
           .leaf)
           .leaf))))
       .leaf))))))
   (.seq .leaf
   .leaf))))))))
def d6_K1  : ((Unit × Unit) → (Option ((Bool × (Int × Unit)) × Unit))) :=
  (fun (x12 : (Unit × Unit)) => (Option.some ((Bool.true, ((0 : Int), ())), ())))
def d6_K2 (x13 : (((IM × (IM × ((List Int) × Unit))) × I2) → (Option ((Bool × (Int × Unit)) × Unit)))) : (((IM × (IM × ((List Int) × Unit))) × I2) → (Option ((Bool × (Int × Unit)) × Unit))) :=
  (fun (x16 : ((IM × (IM × ((List Int) × Unit))) × I2)) => (x13 ((x16.1.1, (x16.1.2.1, (x16.1.2.2.1, ()))), ((Go.IntKind.wrap Go.IntKind.i64 (x16.2.2.1 + (1 : Int))), (x16.2.1, ())))))
def d6_L3 (x0 : Nat) (x12 : ((Unit × Unit) → (Option ((Bool × (Int × Unit)) × Unit)))) : ((((IM × (IM × ((List Int) × Unit))) × I2) → (Option ((Bool × (Int × Unit)) × Unit))) → (((IM × (IM × ((List Int) × Unit))) × I2) → (Option ((Bool × (Int × Unit)) × Unit)))) :=
  (fun (x13 : (((IM × (IM × ((List Int) × Unit))) × I2) → (Option ((Bool × (Int × Unit)) × Unit)))) => (fun (x14 : ((IM × (IM × ((List Int) × Unit))) × I2)) => (lt (Decidable.decide (x14.2.1 < x14.2.2.1)) fun (x15 : Bool) =>
  (if (x15 = Bool.true) then
  (shr (d6_K2 x13) (fun (x16 : (((IM × (IM × ((List Int) × Unit))) × I2) → (Option ((Bool × (Int × Unit)) × Unit)))) => (if (((Decidable.decide ((0 : Int) ≤ x14.2.1)) && (Decidable.decide (x14.2.1 < (((List.length x14.1.2.2.1) : Nat) : Int)))) = Bool.true) then
  (if (((Decidable.decide ((Int.toNat x14.2.1) < (List.length x14.1.2.2.1))) && Bool.true) = Bool.true) then
  (lt (List.getD x14.1.2.2.1 (Int.toNat x14.2.1) (0 : Int)) fun (x17 : Int) =>
  (lt (Go.IntKind.wrap Go.IntKind.i64 (x17 - (1 : Int))) fun (x18 : Int) =>
  (if (((Decidable.decide ((0 : Int) ≤ x18)) && (Decidable.decide (x18 < (((List.length x14.1.2.1.1) : Nat) : Int)))) = Bool.true) then
  (lt (List.getD x14.1.2.1.1 (Int.toNat x18) (((0 : Int), ((0 : Int), ((0 : Int), ((0 : Int), ())))), ((0 : Int), ((0 : Int), (([] : List Int), (([] : List IS), (([] : List PC), ((0 : Int), ((List.replicate (8 : Nat) (0 : Int)), (([] : List I2), (([] : List Bool), (([] : List I2), ())))))))))))) fun (x19 : PA) =>
  (lt (Go.IntKind.wrap Go.IntKind.i64 (x17 - (1 : Int))) fun (x20 : Int) =>
  (if (((Decidable.decide ((0 : Int) ≤ x20)) && (Decidable.decide (x20 < (((List.length x14.1.1.1) : Nat) : Int)))) = Bool.true) then
  (lt (List.getD x14.1.1.1 (Int.toNat x20) (((0 : Int), ((0 : Int), ((0 : Int), ((0 : Int), ())))), ((0 : Int), ((0 : Int), (([] : List Int), (([] : List IS), (([] : List PC), ((0 : Int), ((List.replicate (8 : Nat) (0 : Int)), (([] : List I2), (([] : List Bool), (([] : List I2), ())))))))))))) fun (x21 : PA) =>
  (Option.bind (d24 x0 (x19, (x21, ()))) fun (x22 : ((Bool × Unit) × Unit)) =>
  (lt (Bool.not x22.1.1) fun (x23 : Bool) =>
  (if (x23 = Bool.true) then
  (Option.some ((Bool.false, ((0 : Int), ())), ()))
  else (x16 ((x14.1.1, (x14.1.2.1, (x14.1.2.2.1, ()))), (x14.2.2.1, (x14.2.1, ()))))))))
  else (Option.none))))
  else (Option.none))))
  else (Option.none))
  else (Option.none))))
  else (x12 ((), ()))))))
def d6 : (Nat → ((IM × (IM × (Int × Unit))) → (Option ((Bool × (Int × Unit)) × Unit)))) :=
  (fun (x0 : Nat) => (fun (x1 : (IM × (IM × (Int × Unit)))) => (Option.bind (d17 x0 (x1.1, (x1.2.2.1, ()))) fun (x2 : (((List Int) × (Int × Unit)) × Unit)) =>
  (lt (x2.1.2.1 != (0 : Int)) fun (x3 : Bool) =>
  (if (x3 = Bool.true) then
  (Option.some ((Bool.false, (x2.1.2.1, ())), ()))
  else (Option.bind (d18 x0 (x1.1.1, (x1.2.1.1, ((), ())))) fun (x4 : ((Bool × Unit) × Unit)) =>
  (Option.bind (d20 x0 (x1.1.2.2.1, (x1.2.1.2.2.1, ((), ())))) fun (x5 : ((Bool × Unit) × Unit)) =>
  (lt (Bool.not x4.1.1) fun (x6 : Bool) =>
  (lt (Bool.not x5.1.1) fun (x7 : Bool) =>
  (lt (if (x6 = Bool.true) then
  Bool.true
  else x7) fun (x8 : Bool) =>
  (Option.bind (if (((x8 == Bool.false) && Bool.true) = Bool.true) then
  (d23 x0 (x1.1.2.1, (x1.2.1.2.1, ())))
  else (Option.some ((Bool.false, ()), ()))) fun (x9 : ((Bool × Unit) × Unit)) =>
  (lt (Bool.not x9.1.1) fun (x10 : Bool) =>
  (lt (if (x8 = Bool.true) then
  Bool.true
  else x10) fun (x11 : Bool) =>
  (if (x11 = Bool.true) then
  (Option.some ((Bool.false, ((0 : Int), ())), ()))
  else (shr d6_K1 (fun (x12 : ((Unit × Unit) → (Option ((Bool × (Int × Unit)) × Unit)))) => (loopN (d6_L3 x0 x12) x0 ((x1.2.1, (x1.1, (x2.1.1, ()))), ((0 : Int), ((((List.length x2.1.1) : Nat) : Int), ()))))))))))))))))))))
theorem k6 : c_fn Try.prog ⟨[(19, ⟨s19, d19⟩), (21, ⟨s21, d21⟩), (17, ⟨s17, d17⟩), (18, ⟨s18, d18⟩), (20, ⟨s20, d20⟩), (23, ⟨s23, d23⟩), (24, ⟨s24, d24⟩)], ks0⟩ Try.f6 s6 h6 = some d6 := by kernel_rfl
/-- bulkhead/bulkheadlaw24.scriptTwin -/
def s7 : Sig := ⟨[((.win (.sl 66 kWN)), .val)], [((.win (.sl 66 kWN)), (.own (.ow (.pr .sh (.pr .sh (.pr .sh (.pr (.ow .sh) .sh)))))))]⟩
 def h7 : Hint := (.seq .leaf
   (.seq .leaf
   (.seq (.seq .leaf
   (.block ⟨[((.win (.sl 66 kWN)), (.ow (.pr .sh (.pr .sh (.pr .sh (.pr (.ow .sh) .sh))))), (3, 0))], [((0, 0), (.val (.win (.sl 66 kWN)))), ((3, 0), (.own 0))]⟩ true
     (.loop ⟨[((.win (.sl 66 kWN)), (.ow (.pr .sh (.pr .sh (.pr .sh (.pr (.ow .sh) .sh))))), (3, 0))], [((4, 0), (.val (.int .i64))), ((3, 0), (.own 0)), ((0, 0), (.val (.win (.sl 66 kWN))))]⟩
       (.seq (.seq .leaf
       (.cond none
         .leaf
         .leaf))
       (.seq (.block ⟨[((.win (.sl 66 kWN)), (.ow (.pr .sh (.pr .sh (.pr .sh (.pr (.ow .sh) .sh))))), (3, 0))], [((3, 0), (.own 0)), ((0, 0), (.val (.win (.sl 66 kWN)))), ((4, 0), (.val (.int .i64)))]⟩ true
         (.seq .leaf
         (.seq .leaf
         (.seq .leaf
         (.seq .leaf
         (.seq .leaf
         .leaf))))))
       .leaf)))))
   (.seq .leaf
   (.seq .leaf
   .leaf)))))
def d7_K1  : (((((List WN) × Nat) × Unit) × (((List WN) × Nat) × Unit)) → (Option ((((List WN) × Nat) × Unit) × Unit))) :=
  (fun (x2 : ((((List WN) × Nat) × Unit) × (((List WN) × Nat) × Unit))) => (lt (Neg.neg (77 : Int)) fun (x3 : Int) =>
  (lt ((x3, ((0 : Int), ((0 : Int), ((([] : List Int), (0 : Nat)), ())))) :: ([] : List WN)) fun (x4 : (List WN)) =>
  (if (((Decidable.decide (x2.1.1.2 = (List.length x2.1.1.1))) && (Go.Lift.appFits (List.length x2.1.1.1) (List.length x4) (48 : Nat))) = Bool.true) then
  (lt (x2.1.1.1 ++ x4) fun (x5 : (List WN)) =>
  (lt (List.length (x2.1.1.1 ++ x4)) fun (x6 : Nat) =>
  (lt (((List.length (List.take x2.2.1.2 x2.2.1.1)) : Nat) : Int) fun (x7 : Int) =>
  (if (((Decidable.decide ((0 : Int) ≤ x7)) && (Decidable.decide ((Int.toNat x7) ≤ (List.length x5)))) = Bool.true) then
  (Option.some (((x5, (Int.toNat x7)), ()), ()))
  else (Option.none)))))
  else (Option.none)))))
def d7_K2 (x3 : (((((List WN) × Nat) × Unit) × (Int × (((List WN) × Nat) × Unit))) → (Option ((((List WN) × Nat) × Unit) × Unit)))) : (((((List WN) × Nat) × Unit) × (((List WN) × Nat) × (Int × Unit))) → (Option ((((List WN) × Nat) × Unit) × Unit))) :=
  (fun (x7 : ((((List WN) × Nat) × Unit) × (((List WN) × Nat) × (Int × Unit)))) => (x3 ((x7.1.1, ()), ((Go.IntKind.wrap Go.IntKind.i64 (x7.2.2.1 + (1 : Int))), (x7.2.1, ())))))
def d7_L3 (x2 : (((((List WN) × Nat) × Unit) × (((List WN) × Nat) × Unit)) → (Option ((((List WN) × Nat) × Unit) × Unit)))) : ((((((List WN) × Nat) × Unit) × (Int × (((List WN) × Nat) × Unit))) → (Option ((((List WN) × Nat) × Unit) × Unit))) → (((((List WN) × Nat) × Unit) × (Int × (((List WN) × Nat) × Unit))) → (Option ((((List WN) × Nat) × Unit) × Unit)))) :=
  (fun (x3 : (((((List WN) × Nat) × Unit) × (Int × (((List WN) × Nat) × Unit))) → (Option ((((List WN) × Nat) × Unit) × Unit)))) => (fun (x4 : ((((List WN) × Nat) × Unit) × (Int × (((List WN) × Nat) × Unit)))) => (lt (((List.length (List.take x4.2.2.1.2 x4.2.2.1.1)) : Nat) : Int) fun (x5 : Int) =>
  (lt (Decidable.decide (x4.2.1 < x5)) fun (x6 : Bool) =>
  (if (x6 = Bool.true) then
  (shr (d7_K2 x3) (fun (x7 : (((((List WN) × Nat) × Unit) × (((List WN) × Nat) × (Int × Unit))) → (Option ((((List WN) × Nat) × Unit) × Unit)))) => (if (((Decidable.decide ((0 : Int) ≤ x4.2.1)) && (Decidable.decide (x4.2.1 < (((List.length (List.take x4.2.2.1.2 x4.2.2.1.1)) : Nat) : Int)))) = Bool.true) then
  (lt (List.getD (List.take x4.2.2.1.2 x4.2.2.1.1) (Int.toNat x4.2.1) ((0 : Int), ((0 : Int), ((0 : Int), ((([] : List Int), (0 : Nat)), ()))))) fun (x8 : WN) =>
  (if ((Go.Lift.appFits (0 : Nat) (List.length (List.take x8.2.2.2.1.2 x8.2.2.2.1.1)) (8 : Nat)) = Bool.true) then
  (lt (List.take x8.2.2.2.1.2 x8.2.2.2.1.1) fun (x9 : (List Int)) =>
  (lt (List.length (List.take x8.2.2.2.1.2 x8.2.2.2.1.1)) fun (x10 : Nat) =>
  (lt ((Neg.neg (77 : Int)) :: ([] : List Int)) fun (x11 : (List Int)) =>
  (if (((Decidable.decide (x10 = (List.length x9))) && (Go.Lift.appFits (List.length x9) (List.length x11) (8 : Nat))) = Bool.true) then
  (lt (x9 ++ x11) fun (x12 : (List Int)) =>
  (lt (List.length (x9 ++ x11)) fun (x13 : Nat) =>
  (if (((Decidable.decide ((0 : Int) ≤ x4.2.1)) && (Decidable.decide (x4.2.1 < (((List.length (List.take x4.2.2.1.2 x4.2.2.1.1)) : Nat) : Int)))) = Bool.true) then
  (lt (List.getD (List.take x4.2.2.1.2 x4.2.2.1.1) (Int.toNat x4.2.1) ((0 : Int), ((0 : Int), ((0 : Int), ((([] : List Int), (0 : Nat)), ()))))).2.2.2.1 fun (x14 : ((List Int) × Nat)) =>
  (lt (((List.length (List.take x14.2 x14.1)) : Nat) : Int) fun (x15 : Int) =>
  (if (((Decidable.decide ((0 : Int) ≤ x15)) && (Decidable.decide ((Int.toNat x15) ≤ (List.length x12)))) = Bool.true) then
  (lt (Int.toNat x15) fun (x16 : Nat) =>
  (lt ((x8.1, (x8.2.1, (x8.2.2.1, ((x12, x16), x8.2.2.2.2)))) :: ([] : List WN)) fun (x17 : (List WN)) =>
  (if (((Decidable.decide (x4.1.1.2 = (List.length x4.1.1.1))) && (Go.Lift.appFits (List.length x4.1.1.1) (List.length x17) (48 : Nat))) = Bool.true) then
  (x7 ((((x4.1.1.1 ++ x17), (List.length (x4.1.1.1 ++ x17))), ()), (x4.2.2.1, (x4.2.1, ()))))
  else (Option.none))))
  else (Option.none))))
  else (Option.none))))
  else (Option.none)))))
  else (Option.none)))
  else (Option.none))))
  else (x2 ((x4.1.1, ()), (x4.2.2.1, ()))))))))
def d7 : (Nat → ((((List WN) × Nat) × Unit) → (Option ((((List WN) × Nat) × Unit) × Unit)))) :=
  (fun (x0 : Nat) => (fun (x1 : (((List WN) × Nat) × Unit)) => (shr d7_K1 (fun (x2 : (((((List WN) × Nat) × Unit) × (((List WN) × Nat) × Unit)) → (Option ((((List WN) × Nat) × Unit) × Unit)))) => (loopN (d7_L3 x2) x0 (((([] : List WN), (0 : Nat)), ()), ((0 : Int), (x1.1, ()))))))))
theorem k7 : c_fn Try.prog ⟨[], ksW⟩ Try.f7 s7 h7 = some d7 := by kernel_rfl
/-- bulkhead/flow.AlikeInputs$1 -/
def s25 : Sig := ⟨[(kIN, .val), (kIN, .val)], [(.bool, .val)]⟩
 def h25 : Hint := (.seq .leaf
   (.seq .leaf
   .leaf))
def d25 : (Nat → ((IN × (IN × Unit)) → (Option ((Bool × Unit) × Unit)))) :=
  (fun (x0 : Nat) => (fun (x1 : (IN × (IN × Unit))) => (lt (x1.1.1 == x1.2.1.1) fun (x2 : Bool) =>
  (lt (x1.1.2.1 == x1.2.1.2.1) fun (x3 : Bool) =>
  (lt (if (x2 = Bool.true) then
  x3
  else Bool.false) fun (x4 : Bool) =>
  (lt (x1.1.2.2.1 == x1.2.1.2.2.1) fun (x5 : Bool) =>
  (lt (if (x4 = Bool.true) then
  x5
  else Bool.false) fun (x6 : Bool) =>
  (Option.bind (if (((x6 == Bool.true) && Bool.true) = Bool.true) then
  (d26 x0 (x1.1.2.2.2.1, (x1.2.1.2.2.2.1, ())))
  else (Option.some ((Bool.false, ()), ()))) fun (x7 : ((Bool × Unit) × Unit)) =>
  (Option.some (((if (x6 = Bool.true) then
  x7.1.1
  else Bool.false), ()), ()))))))))))
theorem k25 : c_fn Try.prog ⟨[(26, ⟨s26, d26⟩)], ks0⟩ Try.f25 s25 h25 = some d25 := by kernel_rfl
/-- slices.Index[[]int,int] -/
def s58 : Sig := ⟨[((.sl 3 (.int .i64)), .val), ((.int .i64), .val)], [((.int .i64), .val)]⟩
 def h58 : Hint := (.seq .leaf
   (.seq (.seq .leaf
   (.block ⟨[], []⟩ true
     (.loop ⟨[], [((8, 0), (.val (.int .i64))), ((0, 0), (.val (.sl 3 (.int .i64)))), ((1, 0), (.val (.int .i64))), ((7, 0), (.val (.int .i64)))]⟩
       (.seq .leaf
       (.seq (.cond none
         .leaf
         .leaf)
       (.seq (.block ⟨[], [((0, 0), (.val (.sl 3 (.int .i64)))), ((1, 0), (.val (.int .i64))), ((7, 0), (.val (.int .i64))), ((8, 0), (.val (.int .i64)))]⟩ true
         (.seq .leaf
         (.seq .leaf
         (.cond none
           (.seq .leaf
           .leaf)
           .leaf))))
       .leaf))))))
   (.seq .leaf
   .leaf)))
def d58_K1 (x3 : ((Unit × (Int × ((List Int) × I2))) → (Option ((Int × Unit) × Unit)))) : ((Unit × ((List Int) × (Int × I2))) → (Option ((Int × Unit) × Unit))) :=
  (fun (x6 : (Unit × ((List Int) × (Int × I2)))) => (x3 ((), ((Go.IntKind.wrap Go.IntKind.i64 (x6.2.2.2.2.1 + (1 : Int))), (x6.2.1, (x6.2.2.1, (x6.2.2.2.1, ())))))))
def d58_L2 (x2 : ((Unit × Unit) → (Option ((Int × Unit) × Unit)))) : (((Unit × (Int × ((List Int) × I2))) → (Option ((Int × Unit) × Unit))) → ((Unit × (Int × ((List Int) × I2))) → (Option ((Int × Unit) × Unit)))) :=
  (fun (x3 : ((Unit × (Int × ((List Int) × I2))) → (Option ((Int × Unit) × Unit)))) => (fun (x4 : (Unit × (Int × ((List Int) × I2)))) => (lt (Decidable.decide (x4.2.1 < x4.2.2.2.2.1)) fun (x5 : Bool) =>
  (if (x5 = Bool.true) then
  (shr (d58_K1 x3) (fun (x6 : ((Unit × ((List Int) × (Int × I2))) → (Option ((Int × Unit) × Unit)))) => (if (((Decidable.decide ((0 : Int) ≤ x4.2.1)) && (Decidable.decide (x4.2.1 < (((List.length x4.2.2.1) : Nat) : Int)))) = Bool.true) then
  (lt (List.getD x4.2.2.1 (Int.toNat x4.2.1) (0 : Int)) fun (x7 : Int) =>
  (lt (x4.2.2.2.1 == x7) fun (x8 : Bool) =>
  (if (x8 = Bool.true) then
  (Option.some ((x4.2.1, ()), ()))
  else (x6 ((), (x4.2.2.1, (x4.2.2.2.1, (x4.2.2.2.2.1, (x4.2.1, ())))))))))
  else (Option.none))))
  else (x2 ((), ()))))))
def d58 : (Nat → (((List Int) × (Int × Unit)) → (Option ((Int × Unit) × Unit)))) :=
  (fun (x0 : Nat) => (fun (x1 : ((List Int) × (Int × Unit))) => (shr (fun (x2 : (Unit × Unit)) => (Option.some (((Neg.neg (1 : Int)), ()), ()))) (fun (x2 : ((Unit × Unit) → (Option ((Int × Unit) × Unit)))) => (loopN (d58_L2 x2) x0 ((), ((0 : Int), (x1.1, (x1.2.1, ((((List.length x1.1) : Nat) : Int), ()))))))))))
theorem k58 : c_fn Try.prog ⟨[], ks0⟩ Try.f58 s58 h58 = some d58 := by kernel_rfl
/-- slices.Contains[[]int,int] -/
def s46 : Sig := ⟨[((.sl 3 (.int .i64)), .val), ((.int .i64), .val)], [(.bool, .val)]⟩
 def h46 : Hint := (.seq .leaf
   (.seq .leaf
   .leaf))
def d46 : (Nat → (((List Int) × (Int × Unit)) → (Option ((Bool × Unit) × Unit)))) :=
  (fun (x0 : Nat) => (fun (x1 : ((List Int) × (Int × Unit))) => (Option.bind (d58 x0 (x1.1, (x1.2.1, ()))) fun (x2 : ((Int × Unit) × Unit)) =>
  (Option.some (((Decidable.decide (x2.1.1 ≥ (0 : Int))), ()), ())))))
theorem k46 : c_fn Try.prog ⟨[(58, ⟨s58, d58⟩)], ks0⟩ Try.f46 s46 h46 = some d46 := by kernel_rfl
/-- bulkhead/flow.reaching$1 -/
def s45 : Sig := ⟨[((.int .i64), .val), ((.ptr 40 (.sl 3 (.int .i64))), .val)], [(.bool, .val)]⟩
 def h45 : Hint := (.seq .leaf
   (.seq .leaf
   .leaf))
def d45 : (Nat → ((Int × ((List Int) × Unit)) → (Option ((Bool × Unit) × Unit)))) :=
  (fun (x0 : Nat) => (fun (x1 : (Int × ((List Int) × Unit))) => (Option.bind (d46 x0 (x1.2.1, (x1.1, ()))) fun (x2 : ((Bool × Unit) × Unit)) =>
  (Option.some ((x2.1.1, ()), ())))))
theorem k45 : c_fn Try.prog ⟨[(46, ⟨s46, d46⟩)], ks0⟩ Try.f45 s45 h45 = some d45 := by kernel_rfl
/-- slices.IndexFunc[[]int,int] -/
def s57 : Sig := ⟨[((.sl 3 (.int .i64)), .val), ((.fn 45 (.pair (.ptr 40 (.sl 3 (.int .i64))) .unit)), .val)], [((.int .i64), .val)]⟩
 def h57 : Hint := (.seq .leaf
   (.seq (.seq .leaf
   (.block ⟨[], []⟩ true
     (.loop ⟨[], [((8, 0), (.val (.int .i64))), ((0, 0), (.val (.sl 3 (.int .i64)))), ((1, 0), (.val (.fn 45 (.pair (.ptr 40 (.sl 3 (.int .i64))) .unit)))), ((7, 0), (.val (.int .i64)))]⟩
       (.seq .leaf
       (.seq (.cond none
         .leaf
         .leaf)
       (.seq (.block ⟨[], [((0, 0), (.val (.sl 3 (.int .i64)))), ((1, 0), (.val (.fn 45 (.pair (.ptr 40 (.sl 3 (.int .i64))) .unit)))), ((7, 0), (.val (.int .i64))), ((8, 0), (.val (.int .i64)))]⟩ true
         (.seq .leaf
         (.seq .leaf
         (.cond none
           (.seq .leaf
           .leaf)
           .leaf))))
       .leaf))))))
   (.seq .leaf
   .leaf)))
def d57_K1 (x3 : ((Unit × (Int × ((List Int) × (((List Int) × Unit) × (Int × Unit))))) → (Option ((Int × Unit) × Unit)))) : ((Unit × ((List Int) × (((List Int) × Unit) × I2))) → (Option ((Int × Unit) × Unit))) :=
  (fun (x6 : (Unit × ((List Int) × (((List Int) × Unit) × I2)))) => (x3 ((), ((Go.IntKind.wrap Go.IntKind.i64 (x6.2.2.2.2.1 + (1 : Int))), (x6.2.1, (x6.2.2.1, (x6.2.2.2.1, ())))))))
def d57_L2 (x0 : Nat) (x2 : ((Unit × Unit) → (Option ((Int × Unit) × Unit)))) : (((Unit × (Int × ((List Int) × (((List Int) × Unit) × (Int × Unit))))) → (Option ((Int × Unit) × Unit))) → ((Unit × (Int × ((List Int) × (((List Int) × Unit) × (Int × Unit))))) → (Option ((Int × Unit) × Unit)))) :=
  (fun (x3 : ((Unit × (Int × ((List Int) × (((List Int) × Unit) × (Int × Unit))))) → (Option ((Int × Unit) × Unit)))) => (fun (x4 : (Unit × (Int × ((List Int) × (((List Int) × Unit) × (Int × Unit)))))) => (lt (Decidable.decide (x4.2.1 < x4.2.2.2.2.1)) fun (x5 : Bool) =>
  (if (x5 = Bool.true) then
  (shr (d57_K1 x3) (fun (x6 : ((Unit × ((List Int) × (((List Int) × Unit) × I2))) → (Option ((Int × Unit) × Unit)))) => (if (((Decidable.decide ((0 : Int) ≤ x4.2.1)) && (Decidable.decide (x4.2.1 < (((List.length x4.2.2.1) : Nat) : Int)))) = Bool.true) then
  (lt (List.getD x4.2.2.1 (Int.toNat x4.2.1) (0 : Int)) fun (x7 : Int) =>
  (Option.bind (d45 x0 (x7, (x4.2.2.2.1.1, ()))) fun (x8 : ((Bool × Unit) × Unit)) =>
  (if (x8.1.1 = Bool.true) then
  (Option.some ((x4.2.1, ()), ()))
  else (x6 ((), (x4.2.2.1, (x4.2.2.2.1, (x4.2.2.2.2.1, (x4.2.1, ())))))))))
  else (Option.none))))
  else (x2 ((), ()))))))
def d57 : (Nat → (((List Int) × (((List Int) × Unit) × Unit)) → (Option ((Int × Unit) × Unit)))) :=
  (fun (x0 : Nat) => (fun (x1 : ((List Int) × (((List Int) × Unit) × Unit))) => (shr (fun (x2 : (Unit × Unit)) => (Option.some (((Neg.neg (1 : Int)), ()), ()))) (fun (x2 : ((Unit × Unit) → (Option ((Int × Unit) × Unit)))) => (loopN (d57_L2 x0 x2) x0 ((), ((0 : Int), (x1.1, (x1.2.1, ((((List.length x1.1) : Nat) : Int), ()))))))))))
theorem k57 : c_fn Try.prog ⟨[(45, ⟨s45, d45⟩)], ks0⟩ Try.f57 s57 h57 = some d57 := by kernel_rfl
/-- slices.ContainsFunc[[]int,int] -/
def s44 : Sig := ⟨[((.sl 3 (.int .i64)), .val), ((.fn 45 (.pair (.ptr 40 (.sl 3 (.int .i64))) .unit)), .val)], [(.bool, .val)]⟩
 def h44 : Hint := (.seq .leaf
   (.seq .leaf
   .leaf))
def d44 : (Nat → (((List Int) × (((List Int) × Unit) × Unit)) → (Option ((Bool × Unit) × Unit)))) :=
  (fun (x0 : Nat) => (fun (x1 : ((List Int) × (((List Int) × Unit) × Unit))) => (Option.bind (d57 x0 (x1.1, (x1.2.1, ()))) fun (x2 : ((Int × Unit) × Unit)) =>
  (Option.some (((Decidable.decide (x2.1.1 ≥ (0 : Int))), ()), ())))))
theorem k44 : c_fn Try.prog ⟨[(57, ⟨s57, d57⟩), (45, ⟨s45, d45⟩)], ks0⟩ Try.f44 s44 h44 = some d44 := by kernel_rfl
/-- bulkhead/flow.reaching -/
def s28 : Sig := ⟨[(kIM, .val), ((.sl 66 kIN), .val), ((.sl 3 (.int .i64)), .val)], [((.sl 66 kIN), (.own (.ow .sh)))]⟩
 def h28 : Hint := (.seq .leaf
   (.seq .leaf
   (.seq (.seq .leaf
   (.block ⟨[((.sl 66 kIN), (.ow .sh), (7, 0))], [((7, 0), (.own 0))]⟩ true
     (.loop ⟨[((.sl 66 kIN), (.ow .sh), (7, 0)), ((.ptr 26 kIM), (.ow .sh), (3, 0))], [((13, 0), (.val (.int .i64))), ((7, 0), (.own 0)), ((5, 0), (.val (.ptr 40 (.sl 3 (.int .i64))))), ((3, 0), (.own 1)), ((11, 0), (.val (.sl 66 kIN))), ((12, 0), (.val (.int .i64)))]⟩
       (.seq .leaf
       (.seq (.cond none
         .leaf
         .leaf)
       (.seq (.block ⟨[((.sl 66 kIN), (.ow .sh), (7, 0)), ((.ptr 26 kIM), (.ow .sh), (3, 0))], [((7, 0), (.own 0)), ((5, 0), (.val (.ptr 40 (.sl 3 (.int .i64))))), ((3, 0), (.own 1)), ((11, 0), (.val (.sl 66 kIN))), ((12, 0), (.val (.int .i64))), ((13, 0), (.val (.int .i64)))]⟩ true
         (.seq .leaf
         (.seq .leaf
         (.seq (.seq .leaf
         (.block ⟨[((.ptr 26 kIM), (.ow .sh), (3, 0)), ((.ptr 66 kIN), (.ow .sh), (9, 0)), ((.sl 66 kIN), (.ow .sh), (7, 0)), ((.sl 3 (.int .i64)), (.ow .sh), (10, 0))], [((5, 0), (.val (.ptr 40 (.sl 3 (.int .i64))))), ((3, 0), (.own 0)), ((11, 0), (.val (.sl 66 kIN))), ((12, 0), (.val (.int .i64))), ((13, 0), (.val (.int .i64))), ((9, 0), (.own 1)), ((7, 0), (.own 2)), ((10, 0), (.own 3))]⟩ true
           (.seq .leaf
           (.cond (some ⟨[((.ptr 26 kIM), (.ow .sh), (3, 0)), ((.ptr 66 kIN), (.ow .sh), (9, 0)), ((.sl 66 kIN), (.ow .sh), (7, 0)), ((.sl 3 (.int .i64)), (.ow .sh), (10, 0))], [((5, 0), (.val (.ptr 40 (.sl 3 (.int .i64))))), ((3, 0), (.own 0)), ((11, 0), (.val (.sl 66 kIN))), ((12, 0), (.val (.int .i64))), ((13, 0), (.val (.int .i64))), ((9, 0), (.own 1)), ((7, 0), (.own 2)), ((10, 0), (.own 3))]⟩)
             .leaf
             (.seq .leaf
             (.cond (some ⟨[((.ptr 26 kIM), (.ow .sh), (3, 0)), ((.ptr 66 kIN), (.ow .sh), (9, 0)), ((.sl 66 kIN), (.ow .sh), (7, 0)), ((.sl 3 (.int .i64)), (.ow .sh), (10, 0))], [((5, 0), (.val (.ptr 40 (.sl 3 (.int .i64))))), ((3, 0), (.own 0)), ((11, 0), (.val (.sl 66 kIN))), ((12, 0), (.val (.int .i64))), ((13, 0), (.val (.int .i64))), ((9, 0), (.own 1)), ((7, 0), (.own 2)), ((10, 0), (.own 3))]⟩)
               .leaf
               .leaf))))))
         (.seq .leaf
         (.cond (some ⟨[((.sl 66 kIN), (.ow .sh), (7, 0)), ((.ptr 26 kIM), (.ow .sh), (3, 0))], [((7, 0), (.own 0)), ((5, 0), (.val (.ptr 40 (.sl 3 (.int .i64))))), ((3, 0), (.own 1)), ((11, 0), (.val (.sl 66 kIN))), ((12, 0), (.val (.int .i64))), ((13, 0), (.val (.int .i64)))]⟩)
           .leaf
           .leaf))))))
       .leaf))))))
   (.seq .leaf
   .leaf))))
def d28_K1  : ((((List IN) × Unit) × Unit) → (Option (((List IN) × Unit) × Unit))) :=
  (fun (x2 : (((List IN) × Unit) × Unit)) => (Option.some ((x2.1.1, ()), ())))
def d28_K2 (x3 : ((((List IN) × (IM × Unit)) × (Int × ((List Int) × ((List IN) × (Int × Unit))))) → (Option (((List IN) × Unit) × Unit)))) : ((((List IN) × (IM × Unit)) × ((List Int) × ((List IN) × I2))) → (Option (((List IN) × Unit) × Unit))) :=
  (fun (x6 : (((List IN) × (IM × Unit)) × ((List Int) × ((List IN) × I2)))) => (x3 ((x6.1.1, (x6.1.2.1, ())), ((Go.IntKind.wrap Go.IntKind.i64 (x6.2.2.2.2.1 + (1 : Int))), (x6.2.1, (x6.2.2.1, (x6.2.2.2.1, ())))))))
def d28_K3 (x6 : ((((List IN) × (IM × Unit)) × ((List Int) × ((List IN) × I2))) → (Option (((List IN) × Unit) × Unit)))) : ((((List IN) × (IM × Unit)) × ((List Int) × ((List IN) × I2))) → (Option (((List IN) × Unit) × Unit))) :=
  (fun (x10 : (((List IN) × (IM × Unit)) × ((List Int) × ((List IN) × I2)))) => (x6 ((x10.1.1, (x10.1.2.1, ())), (x10.2.1, (x10.2.2.1, (x10.2.2.2.1, (x10.2.2.2.2.1, ())))))))
def d28_K4 (x0 : Nat) (x6 : ((((List IN) × (IM × Unit)) × ((List Int) × ((List IN) × I2))) → (Option (((List IN) × Unit) × Unit)))) : (((IM × (IN × ((List IN) × ((List Int) × Unit)))) × ((List Int) × ((List IN) × I2))) → (Option (((List IN) × Unit) × Unit))) :=
  (fun (x8 : ((IM × (IN × ((List IN) × ((List Int) × Unit)))) × ((List Int) × ((List IN) × I2)))) => (Option.bind (d44 x0 (x8.1.2.2.2.1, ((x8.2.1, ()), ()))) fun (x9 : ((Bool × Unit) × Unit)) =>
  (shr (d28_K3 x6) (fun (x10 : ((((List IN) × (IM × Unit)) × ((List Int) × ((List IN) × I2))) → (Option (((List IN) × Unit) × Unit)))) => (if (x9.1.1 = Bool.true) then
  (lt (x8.1.2.1 :: ([] : List IN)) fun (x11 : (List IN)) =>
  (if ((Go.Lift.appFits (List.length x8.1.2.2.1) (List.length x11) (48 : Nat)) = Bool.true) then
  (x10 (((x8.1.2.2.1 ++ x11), (x8.1.1, ())), (x8.2.1, (x8.2.2.1, (x8.2.2.2.1, (x8.2.2.2.2.1, ()))))))
  else (Option.none)))
  else (x10 ((x8.1.2.2.1, (x8.1.1, ())), (x8.2.1, (x8.2.2.1, (x8.2.2.2.1, (x8.2.2.2.2.1, ())))))))))))
def d28_K5 (x8 : (((IM × (IN × ((List IN) × ((List Int) × Unit)))) × ((List Int) × ((List IN) × I2))) → (Option (((List IN) × Unit) × Unit)))) : (((IM × (IN × ((List IN) × ((List Int) × Unit)))) × ((List Int) × ((List IN) × I2))) → (Option (((List IN) × Unit) × Unit))) :=
  (fun (x10 : ((IM × (IN × ((List IN) × ((List Int) × Unit)))) × ((List Int) × ((List IN) × I2)))) => (x8 ((x10.1.1, (x10.1.2.1, (x10.1.2.2.1, (x10.1.2.2.2.1, ())))), (x10.2.1, (x10.2.2.1, (x10.2.2.2.1, (x10.2.2.2.2.1, ())))))))
def d28_K6 (x10 : (((IM × (IN × ((List IN) × ((List Int) × Unit)))) × ((List Int) × ((List IN) × I2))) → (Option (((List IN) × Unit) × Unit)))) : (((IM × (IN × ((List IN) × ((List Int) × Unit)))) × ((List Int) × ((List IN) × I2))) → (Option (((List IN) × Unit) × Unit))) :=
  (fun (x12 : ((IM × (IN × ((List IN) × ((List Int) × Unit)))) × ((List Int) × ((List IN) × I2)))) => (x10 ((x12.1.1, (x12.1.2.1, (x12.1.2.2.1, (x12.1.2.2.2.1, ())))), (x12.2.1, (x12.2.2.1, (x12.2.2.2.1, (x12.2.2.2.2.1, ())))))))
def d28_L7 (x0 : Nat) (x2 : ((((List IN) × Unit) × Unit) → (Option (((List IN) × Unit) × Unit)))) : (((((List IN) × (IM × Unit)) × (Int × ((List Int) × ((List IN) × (Int × Unit))))) → (Option (((List IN) × Unit) × Unit))) → ((((List IN) × (IM × Unit)) × (Int × ((List Int) × ((List IN) × (Int × Unit))))) → (Option (((List IN) × Unit) × Unit)))) :=
  (fun (x3 : ((((List IN) × (IM × Unit)) × (Int × ((List Int) × ((List IN) × (Int × Unit))))) → (Option (((List IN) × Unit) × Unit)))) => (fun (x4 : (((List IN) × (IM × Unit)) × (Int × ((List Int) × ((List IN) × (Int × Unit)))))) => (lt (Decidable.decide (x4.2.1 < x4.2.2.2.2.1)) fun (x5 : Bool) =>
  (if (x5 = Bool.true) then
  (shr (d28_K2 x3) (fun (x6 : ((((List IN) × (IM × Unit)) × ((List Int) × ((List IN) × I2))) → (Option (((List IN) × Unit) × Unit)))) => (if (((Decidable.decide ((0 : Int) ≤ x4.2.1)) && (Decidable.decide (x4.2.1 < (((List.length x4.2.2.2.1) : Nat) : Int)))) = Bool.true) then
  (lt (List.getD x4.2.2.2.1 (Int.toNat x4.2.1) ((0 : Int), ((0 : Int), ((0 : Int), (([] : List Int), ()))))) fun (x7 : IN) =>
  (shr (d28_K4 x0 x6) (fun (x8 : (((IM × (IN × ((List IN) × ((List Int) × Unit)))) × ((List Int) × ((List IN) × I2))) → (Option (((List IN) × Unit) × Unit)))) => (lt (x7.2.1 == (2 : Int)) fun (x9 : Bool) =>
  (shr (d28_K5 x8) (fun (x10 : (((IM × (IN × ((List IN) × ((List Int) × Unit)))) × ((List Int) × ((List IN) × I2))) → (Option (((List IN) × Unit) × Unit)))) => (if (x9 = Bool.true) then
  (x10 ((x4.1.2.1, (x7, (x4.1.1, ((x7.2.2.1 :: ([] : List Int)), ())))), (x4.2.2.1, (x4.2.2.2.1, (x4.2.2.2.2.1, (x4.2.1, ()))))))
  else (lt (x7.2.1 == (1 : Int)) fun (x11 : Bool) =>
  (shr (d28_K6 x10) (fun (x12 : (((IM × (IN × ((List IN) × ((List Int) × Unit)))) × ((List Int) × ((List IN) × I2))) → (Option (((List IN) × Unit) × Unit)))) => (if (x11 = Bool.true) then
  (Option.bind (d43 x0 (x4.1.2.1, (x7.2.2.1, ()))) fun (x13 : ((Int × ((List Int) × (Int × Unit))) × Unit)) =>
  (x12 ((x4.1.2.1, (x7, (x4.1.1, (x13.1.2.1, ())))), (x4.2.2.1, (x4.2.2.2.1, (x4.2.2.2.2.1, (x4.2.1, ())))))))
  else (x12 ((x4.1.2.1, (x7, (x4.1.1, (([] : List Int), ())))), (x4.2.2.1, (x4.2.2.2.1, (x4.2.2.2.2.1, (x4.2.1, ())))))))))))))))))
  else (Option.none))))
  else (x2 ((x4.1.1, ()), ()))))))
def d28 : (Nat → ((IM × ((List IN) × ((List Int) × Unit))) → (Option (((List IN) × Unit) × Unit)))) :=
  (fun (x0 : Nat) => (fun (x1 : (IM × ((List IN) × ((List Int) × Unit)))) => (shr d28_K1 (fun (x2 : ((((List IN) × Unit) × Unit) → (Option (((List IN) × Unit) × Unit)))) => (loopN (d28_L7 x0 x2) x0 ((([] : List IN), (x1.1, ())), ((0 : Int), (x1.2.2.1, (x1.2.1, ((((List.length x1.2.1) : Nat) : Int), ()))))))))))
theorem k28 : c_fn Try.prog ⟨[(45, ⟨s45, d45⟩), (43, ⟨s43, d43⟩), (44, ⟨s44, d44⟩)], ks0⟩ Try.f28 s28 h28 = some d28 := by kernel_rfl
/-- slices.EqualFunc[[]bulkhead/api.Input,[]bulkhead/api.Input,bulkhead/api.Input,bulkhead/api.Input] -/
def s27 : Sig := ⟨[((.sl 66 kIN), .val), ((.sl 66 kIN), .val), ((.fn 25 .unit), .val)], [(.bool, .val)]⟩
 def h27 : Hint := (.seq .leaf
   (.seq (.seq .leaf
   (.cond none
     (.seq .leaf
     .leaf)
     .leaf))
   (.seq (.seq .leaf
   (.block ⟨[], []⟩ true
     (.loop ⟨[], [((17, 0), (.val (.int .i64))), ((2, 0), (.val (.fn 25 .unit))), ((1, 0), (.val (.sl 66 kIN))), ((15, 0), (.val (.sl 66 kIN))), ((16, 0), (.val (.int .i64)))]⟩
       (.seq .leaf
       (.seq (.cond none
         .leaf
         .leaf)
       (.seq (.block ⟨[], [((2, 0), (.val (.fn 25 .unit))), ((1, 0), (.val (.sl 66 kIN))), ((15, 0), (.val (.sl 66 kIN))), ((16, 0), (.val (.int .i64))), ((17, 0), (.val (.int .i64)))]⟩ true
         (.seq .leaf
         (.seq .leaf
         (.seq .leaf
         (.cond none
           (.seq .leaf
           .leaf)
           .leaf)))))
       .leaf))))))
   (.seq .leaf
   .leaf))))
def d27_K1 (x6 : ((Unit × (Int × (Unit × ((List IN) × ((List IN) × (Int × Unit)))))) → (Option ((Bool × Unit) × Unit)))) : ((Unit × (Unit × ((List IN) × ((List IN) × I2)))) → (Option ((Bool × Unit) × Unit))) :=
  (fun (x9 : (Unit × (Unit × ((List IN) × ((List IN) × I2))))) => (x6 ((), ((Go.IntKind.wrap Go.IntKind.i64 (x9.2.2.2.2.2.1 + (1 : Int))), (x9.2.1, (x9.2.2.1, (x9.2.2.2.1, (x9.2.2.2.2.1, ()))))))))
def d27_L2 (x0 : Nat) (x5 : ((Unit × Unit) → (Option ((Bool × Unit) × Unit)))) : (((Unit × (Int × (Unit × ((List IN) × ((List IN) × (Int × Unit)))))) → (Option ((Bool × Unit) × Unit))) → ((Unit × (Int × (Unit × ((List IN) × ((List IN) × (Int × Unit)))))) → (Option ((Bool × Unit) × Unit)))) :=
  (fun (x6 : ((Unit × (Int × (Unit × ((List IN) × ((List IN) × (Int × Unit)))))) → (Option ((Bool × Unit) × Unit)))) => (fun (x7 : (Unit × (Int × (Unit × ((List IN) × ((List IN) × (Int × Unit))))))) => (lt (Decidable.decide (x7.2.1 < x7.2.2.2.2.2.1)) fun (x8 : Bool) =>
  (if (x8 = Bool.true) then
  (shr (d27_K1 x6) (fun (x9 : ((Unit × (Unit × ((List IN) × ((List IN) × I2)))) → (Option ((Bool × Unit) × Unit)))) => (if (((Decidable.decide ((0 : Int) ≤ x7.2.1)) && (Decidable.decide (x7.2.1 < (((List.length x7.2.2.2.2.1) : Nat) : Int)))) = Bool.true) then
  (lt (List.getD x7.2.2.2.2.1 (Int.toNat x7.2.1) ((0 : Int), ((0 : Int), ((0 : Int), (([] : List Int), ()))))) fun (x10 : IN) =>
  (if (((Decidable.decide ((0 : Int) ≤ x7.2.1)) && (Decidable.decide (x7.2.1 < (((List.length x7.2.2.2.1) : Nat) : Int)))) = Bool.true) then
  (lt (List.getD x7.2.2.2.1 (Int.toNat x7.2.1) ((0 : Int), ((0 : Int), ((0 : Int), (([] : List Int), ()))))) fun (x11 : IN) =>
  (Option.bind (d25 x0 (x10, (x11, ()))) fun (x12 : ((Bool × Unit) × Unit)) =>
  (lt (Bool.not x12.1.1) fun (x13 : Bool) =>
  (if (x13 = Bool.true) then
  (Option.some ((Bool.false, ()), ()))
  else (x9 ((), (x7.2.2.1, (x7.2.2.2.1, (x7.2.2.2.2.1, (x7.2.2.2.2.2.1, (x7.2.1, ())))))))))))
  else (Option.none)))
  else (Option.none))))
  else (x5 ((), ()))))))
def d27 : (Nat → (((List IN) × ((List IN) × (Unit × Unit))) → (Option ((Bool × Unit) × Unit)))) :=
  (fun (x0 : Nat) => (fun (x1 : ((List IN) × ((List IN) × (Unit × Unit)))) => (lt (((List.length x1.1) : Nat) : Int) fun (x2 : Int) =>
  (lt (((List.length x1.2.1) : Nat) : Int) fun (x3 : Int) =>
  (lt (x2 != x3) fun (x4 : Bool) =>
  (if (x4 = Bool.true) then
  (Option.some ((Bool.false, ()), ()))
  else (shr (fun (x5 : (Unit × Unit)) => (Option.some ((Bool.true, ()), ()))) (fun (x5 : ((Unit × Unit) → (Option ((Bool × Unit) × Unit)))) => (loopN (d27_L2 x0 x5) x0 ((), ((0 : Int), (x1.2.2.1, (x1.2.1, (x1.1, ((((List.length x1.1) : Nat) : Int), ())))))))))))))))
theorem k27 : c_fn Try.prog ⟨[(25, ⟨s25, d25⟩)], ks0⟩ Try.f27 s27 h27 = some d27 := by kernel_rfl
/-- bulkhead/flow.AlikeInputs -/
def s8 : Sig := ⟨[(kIM, .val), ((.sl 66 kIN), .val), ((.sl 66 kIN), .val), ((.int .i64), .val)], [(.bool, .val), ((.int .i64), .val)]⟩
 def h8 : Hint := (.seq .leaf
   (.seq .leaf
   (.seq (.seq .leaf
   (.cond none
     (.seq .leaf
     .leaf)
     .leaf))
   (.seq .leaf
   (.seq (.pre ⟨[((.ptr 26 kIM), (.ow .sh), (4, 0))], [((12, 0), (.val (.fn 25 .unit))), ((10, 0), (.val (.sl 3 (.int .i64)))), ((2, 0), (.val (.sl 66 kIN))), ((4, 0), (.own 0)), ((1, 0), (.val (.sl 66 kIN)))]⟩ .leaf)
   .leaf)))))
def d8 : (Nat → ((IM × ((List IN) × ((List IN) × (Int × Unit)))) → (Option ((Bool × (Int × Unit)) × Unit)))) :=
  (fun (x0 : Nat) => (fun (x1 : (IM × ((List IN) × ((List IN) × (Int × Unit))))) => (Option.bind (d17 x0 (x1.1, (x1.2.2.2.1, ()))) fun (x2 : (((List Int) × (Int × Unit)) × Unit)) =>
  (lt (x2.1.2.1 != (0 : Int)) fun (x3 : Bool) =>
  (if (x3 = Bool.true) then
  (Option.some ((Bool.false, (x2.1.2.1, ())), ()))
  else (Option.bind (d28 x0 (x1.1, (x1.2.1, (x2.1.1, ())))) fun (x4 : (((List IN) × Unit) × Unit)) =>
  (Option.bind (d28 x0 (x1.1, (x1.2.2.1, (x2.1.1, ())))) fun (x5 : (((List IN) × Unit) × Unit)) =>
  (Option.bind (d27 x0 (x4.1.1, (x5.1.1, ((), ())))) fun (x6 : ((Bool × Unit) × Unit)) =>
  (Option.some ((x6.1.1, ((0 : Int), ())), ()))))))))))
theorem k8 : c_fn Try.prog ⟨[(25, ⟨s25, d25⟩), (17, ⟨s17, d17⟩), (28, ⟨s28, d28⟩), (27, ⟨s27, d27⟩)], ks0⟩ Try.f8 s8 h8 = some d8 := by kernel_rfl
/-- bulkhead/bulkheadlaw24.scriptLeft -/
def s9 : Sig := ⟨[((.win (.sl 66 kWN)), .val), ((.win (.sl 66 kWN)), .val)], [(.bool, .val)]⟩
 def h9 : Hint := (.seq .leaf
   (.seq (.seq .leaf
   (.cond none
     (.seq .leaf
     .leaf)
     .leaf))
   (.seq (.seq .leaf
   (.block ⟨[], []⟩ true
     (.loop ⟨[], [((5, 0), (.val (.int .i64))), ((1, 0), (.val (.win (.sl 66 kWN)))), ((0, 0), (.val (.win (.sl 66 kWN))))]⟩
       (.seq (.seq .leaf
       (.cond none
         .leaf
         .leaf))
       (.seq (.block ⟨[], [((1, 0), (.val (.win (.sl 66 kWN)))), ((0, 0), (.val (.win (.sl 66 kWN)))), ((5, 0), (.val (.int .i64)))]⟩ true
         (.seq .leaf
         (.seq (.seq .leaf
         (.cond none
           (.seq .leaf
           .leaf)
           .leaf))
         (.seq .leaf
         (.block ⟨[], [((1, 0), (.val (.win (.sl 66 kWN)))), ((0, 0), (.val (.win (.sl 66 kWN)))), ((5, 0), (.val (.int .i64)))]⟩ true
           (.loop ⟨[], [((7, 0), (.val (.int .i64))), ((5, 0), (.val (.int .i64))), ((1, 0), (.val (.win (.sl 66 kWN)))), ((0, 0), (.val (.win (.sl 66 kWN)))), ((6, 0), (.val (.int .i64)))]⟩
             (.seq (.seq .leaf
             (.cond none
               .leaf
               .leaf))
             (.seq (.block ⟨[], [((5, 0), (.val (.int .i64))), ((1, 0), (.val (.win (.sl 66 kWN)))), ((0, 0), (.val (.win (.sl 66 kWN)))), ((6, 0), (.val (.int .i64))), ((7, 0), (.val (.int .i64)))]⟩ true
               (.seq .leaf
               (.cond none
                 (.seq .leaf
                 .leaf)
                 .leaf)))
             .leaf))))))))
       .leaf)))))
   (.seq .leaf
   .leaf))))
def d9_K1 (x9 : ((Unit × (Int × (((List WN) × Nat) × (((List WN) × Nat) × Unit)))) → (Option ((Bool × Unit) × Unit)))) : ((Unit × (((List WN) × Nat) × (((List WN) × Nat) × (Int × Unit)))) → (Option ((Bool × Unit) × Unit))) :=
  (fun (x13 : (Unit × (((List WN) × Nat) × (((List WN) × Nat) × (Int × Unit))))) => (x9 ((), ((Go.IntKind.wrap Go.IntKind.i64 (x13.2.2.2.1 + (1 : Int))), (x13.2.1, (x13.2.2.1, ()))))))
def d9_K2 (x13 : ((Unit × (((List WN) × Nat) × (((List WN) × Nat) × (Int × Unit)))) → (Option ((Bool × Unit) × Unit)))) : ((Unit × (((List WN) × Nat) × (((List WN) × Nat) × (Int × Unit)))) → (Option ((Bool × Unit) × Unit))) :=
  (fun (x39 : (Unit × (((List WN) × Nat) × (((List WN) × Nat) × (Int × Unit))))) => (x13 ((), (x39.2.1, (x39.2.2.1, (x39.2.2.2.1, ()))))))
def d9_K3 (x40 : ((Unit × (Int × (Int × (((List WN) × Nat) × (((List WN) × Nat) × (Int × Unit)))))) → (Option ((Bool × Unit) × Unit)))) : ((Unit × (Int × (((List WN) × Nat) × (((List WN) × Nat) × I2)))) → (Option ((Bool × Unit) × Unit))) :=
  (fun (x43 : (Unit × (Int × (((List WN) × Nat) × (((List WN) × Nat) × I2))))) => (x40 ((), ((Go.IntKind.wrap Go.IntKind.i64 (x43.2.2.2.2.2.1 + (1 : Int))), (x43.2.1, (x43.2.2.1, (x43.2.2.2.1, (x43.2.2.2.2.1, ()))))))))
def d9_L4 (x39 : ((Unit × (((List WN) × Nat) × (((List WN) × Nat) × (Int × Unit)))) → (Option ((Bool × Unit) × Unit)))) : (((Unit × (Int × (Int × (((List WN) × Nat) × (((List WN) × Nat) × (Int × Unit)))))) → (Option ((Bool × Unit) × Unit))) → ((Unit × (Int × (Int × (((List WN) × Nat) × (((List WN) × Nat) × (Int × Unit)))))) → (Option ((Bool × Unit) × Unit)))) :=
  (fun (x40 : ((Unit × (Int × (Int × (((List WN) × Nat) × (((List WN) × Nat) × (Int × Unit)))))) → (Option ((Bool × Unit) × Unit)))) => (fun (x41 : (Unit × (Int × (Int × (((List WN) × Nat) × (((List WN) × Nat) × (Int × Unit))))))) => (lt (Decidable.decide (x41.2.1 < x41.2.2.2.2.2.1)) fun (x42 : Bool) =>
  (if (x42 = Bool.true) then
  (shr (d9_K3 x40) (fun (x43 : ((Unit × (Int × (((List WN) × Nat) × (((List WN) × Nat) × I2)))) → (Option ((Bool × Unit) × Unit)))) => (if (((Decidable.decide ((0 : Int) ≤ x41.2.2.1)) && (Decidable.decide (x41.2.2.1 < (((List.length (List.take x41.2.2.2.2.1.2 x41.2.2.2.2.1.1)) : Nat) : Int)))) = Bool.true) then
  (lt (List.getD (List.take x41.2.2.2.2.1.2 x41.2.2.2.2.1.1) (Int.toNat x41.2.2.1) ((0 : Int), ((0 : Int), ((0 : Int), ((([] : List Int), (0 : Nat)), ()))))).2.2.2.1 fun (x44 : ((List Int) × Nat)) =>
  (if (((Decidable.decide ((0 : Int) ≤ x41.2.1)) && (Decidable.decide (x41.2.1 < (((List.length (List.take x44.2 x44.1)) : Nat) : Int)))) = Bool.true) then
  (lt (List.getD (List.take x44.2 x44.1) (Int.toNat x41.2.1) (0 : Int)) fun (x45 : Int) =>
  (if (((Decidable.decide ((0 : Int) ≤ x41.2.2.1)) && (Decidable.decide (x41.2.2.1 < (((List.length (List.take x41.2.2.2.1.2 x41.2.2.2.1.1)) : Nat) : Int)))) = Bool.true) then
  (lt (List.getD (List.take x41.2.2.2.1.2 x41.2.2.2.1.1) (Int.toNat x41.2.2.1) ((0 : Int), ((0 : Int), ((0 : Int), ((([] : List Int), (0 : Nat)), ()))))).2.2.2.1 fun (x46 : ((List Int) × Nat)) =>
  (if (((Decidable.decide ((0 : Int) ≤ x41.2.1)) && (Decidable.decide (x41.2.1 < (((List.length (List.take x46.2 x46.1)) : Nat) : Int)))) = Bool.true) then
  (lt (List.getD (List.take x46.2 x46.1) (Int.toNat x41.2.1) (0 : Int)) fun (x47 : Int) =>
  (lt (x45 != x47) fun (x48 : Bool) =>
  (if (x48 = Bool.true) then
  (Option.some ((Bool.false, ()), ()))
  else (x43 ((), (x41.2.2.1, (x41.2.2.2.1, (x41.2.2.2.2.1, (x41.2.2.2.2.2.1, (x41.2.1, ()))))))))))
  else (Option.none)))
  else (Option.none)))
  else (Option.none)))
  else (Option.none))))
  else (x39 ((), (x41.2.2.2.1, (x41.2.2.2.2.1, (x41.2.2.1, ())))))))))
def d9_L5 (x0 : Nat) (x8 : ((Unit × Unit) → (Option ((Bool × Unit) × Unit)))) : (((Unit × (Int × (((List WN) × Nat) × (((List WN) × Nat) × Unit)))) → (Option ((Bool × Unit) × Unit))) → ((Unit × (Int × (((List WN) × Nat) × (((List WN) × Nat) × Unit)))) → (Option ((Bool × Unit) × Unit)))) :=
  (fun (x9 : ((Unit × (Int × (((List WN) × Nat) × (((List WN) × Nat) × Unit)))) → (Option ((Bool × Unit) × Unit)))) => (fun (x10 : (Unit × (Int × (((List WN) × Nat) × (((List WN) × Nat) × Unit))))) => (lt (((List.length (List.take x10.2.2.1.2 x10.2.2.1.1)) : Nat) : Int) fun (x11 : Int) =>
  (lt (Decidable.decide (x10.2.1 < x11)) fun (x12 : Bool) =>
  (if (x12 = Bool.true) then
  (shr (d9_K1 x9) (fun (x13 : ((Unit × (((List WN) × Nat) × (((List WN) × Nat) × (Int × Unit)))) → (Option ((Bool × Unit) × Unit)))) => (if (((Decidable.decide ((0 : Int) ≤ x10.2.1)) && (Decidable.decide (x10.2.1 < (((List.length (List.take x10.2.2.1.2 x10.2.2.1.1)) : Nat) : Int)))) = Bool.true) then
  (lt (List.getD (List.take x10.2.2.1.2 x10.2.2.1.1) (Int.toNat x10.2.1) ((0 : Int), ((0 : Int), ((0 : Int), ((([] : List Int), (0 : Nat)), ()))))).2.2.2.1 fun (x14 : ((List Int) × Nat)) =>
  (lt (((List.length (List.take x14.2 x14.1)) : Nat) : Int) fun (x15 : Int) =>
  (if (((Decidable.decide ((0 : Int) ≤ x10.2.1)) && (Decidable.decide (x10.2.1 < (((List.length (List.take x10.2.2.2.1.2 x10.2.2.2.1.1)) : Nat) : Int)))) = Bool.true) then
  (lt (List.getD (List.take x10.2.2.2.1.2 x10.2.2.2.1.1) (Int.toNat x10.2.1) ((0 : Int), ((0 : Int), ((0 : Int), ((([] : List Int), (0 : Nat)), ()))))).1 fun (x16 : Int) =>
  (if (((Decidable.decide ((0 : Int) ≤ x10.2.1)) && (Decidable.decide (x10.2.1 < (((List.length (List.take x10.2.2.1.2 x10.2.2.1.1)) : Nat) : Int)))) = Bool.true) then
  (lt (List.getD (List.take x10.2.2.1.2 x10.2.2.1.1) (Int.toNat x10.2.1) ((0 : Int), ((0 : Int), ((0 : Int), ((([] : List Int), (0 : Nat)), ()))))).1 fun (x17 : Int) =>
  (lt (x16 != x17) fun (x18 : Bool) =>
  (if (((Bool.not ((x18 == Bool.false) && Bool.true)) || ((Decidable.decide ((0 : Int) ≤ x10.2.1)) && (Decidable.decide (x10.2.1 < (((List.length (List.take x10.2.2.2.1.2 x10.2.2.2.1.1)) : Nat) : Int))))) = Bool.true) then
  (lt (List.getD (List.take x10.2.2.2.1.2 x10.2.2.2.1.1) (Int.toNat x10.2.1) ((0 : Int), ((0 : Int), ((0 : Int), ((([] : List Int), (0 : Nat)), ()))))).2.1 fun (x19 : Int) =>
  (if (((Bool.not ((x18 == Bool.false) && Bool.true)) || ((Decidable.decide ((0 : Int) ≤ x10.2.1)) && (Decidable.decide (x10.2.1 < (((List.length (List.take x10.2.2.1.2 x10.2.2.1.1)) : Nat) : Int))))) = Bool.true) then
  (lt (List.getD (List.take x10.2.2.1.2 x10.2.2.1.1) (Int.toNat x10.2.1) ((0 : Int), ((0 : Int), ((0 : Int), ((([] : List Int), (0 : Nat)), ()))))).2.1 fun (x20 : Int) =>
  (lt (x19 != x20) fun (x21 : Bool) =>
  (lt (if (x18 = Bool.true) then
  Bool.true
  else x21) fun (x22 : Bool) =>
  (if (((Bool.not ((x22 == Bool.false) && Bool.true)) || ((Decidable.decide ((0 : Int) ≤ x10.2.1)) && (Decidable.decide (x10.2.1 < (((List.length (List.take x10.2.2.2.1.2 x10.2.2.2.1.1)) : Nat) : Int))))) = Bool.true) then
  (lt (List.getD (List.take x10.2.2.2.1.2 x10.2.2.2.1.1) (Int.toNat x10.2.1) ((0 : Int), ((0 : Int), ((0 : Int), ((([] : List Int), (0 : Nat)), ()))))).2.2.1 fun (x23 : Int) =>
  (if (((Bool.not ((x22 == Bool.false) && Bool.true)) || ((Decidable.decide ((0 : Int) ≤ x10.2.1)) && (Decidable.decide (x10.2.1 < (((List.length (List.take x10.2.2.1.2 x10.2.2.1.1)) : Nat) : Int))))) = Bool.true) then
  (lt (List.getD (List.take x10.2.2.1.2 x10.2.2.1.1) (Int.toNat x10.2.1) ((0 : Int), ((0 : Int), ((0 : Int), ((([] : List Int), (0 : Nat)), ()))))).2.2.1 fun (x24 : Int) =>
  (lt (x23 != x24) fun (x25 : Bool) =>
  (lt (if (x22 = Bool.true) then
  Bool.true
  else x25) fun (x26 : Bool) =>
  (if (((Bool.not ((x26 == Bool.false) && Bool.true)) || ((Decidable.decide ((0 : Int) ≤ x10.2.1)) && (Decidable.decide (x10.2.1 < (((List.length (List.take x10.2.2.2.1.2 x10.2.2.2.1.1)) : Nat) : Int))))) = Bool.true) then
  (lt (List.getD (List.take x10.2.2.2.1.2 x10.2.2.2.1.1) (Int.toNat x10.2.1) ((0 : Int), ((0 : Int), ((0 : Int), ((([] : List Int), (0 : Nat)), ()))))).2.2.2.1 fun (x27 : ((List Int) × Nat)) =>
  (lt (((List.length (List.take x27.2 x27.1)) : Nat) : Int) fun (x28 : Int) =>
  (lt (x28 != x15) fun (x29 : Bool) =>
  (lt (if (x26 = Bool.true) then
  Bool.true
  else x29) fun (x30 : Bool) =>
  (if (((Bool.not ((x30 == Bool.false) && Bool.true)) || ((Decidable.decide ((0 : Int) ≤ x10.2.1)) && (Decidable.decide (x10.2.1 < (((List.length (List.take x10.2.2.2.1.2 x10.2.2.2.1.1)) : Nat) : Int))))) = Bool.true) then
  (lt (List.getD (List.take x10.2.2.2.1.2 x10.2.2.2.1.1) (Int.toNat x10.2.1) ((0 : Int), ((0 : Int), ((0 : Int), ((([] : List Int), (0 : Nat)), ()))))).2.2.2.1 fun (x31 : ((List Int) × Nat)) =>
  (if (((Bool.not ((x30 == Bool.false) && Bool.true)) || (Decidable.decide ((((List.length x31.1) : Nat) : Int) > x15))) = Bool.true) then
  (lt (if (x30 = Bool.true) then
  Bool.true
  else Bool.false) fun (x32 : Bool) =>
  (if (((Bool.not ((x32 == Bool.false) && Bool.true)) || ((Decidable.decide ((0 : Int) ≤ x10.2.1)) && (Decidable.decide (x10.2.1 < (((List.length (List.take x10.2.2.2.1.2 x10.2.2.2.1.1)) : Nat) : Int))))) = Bool.true) then
  (lt (List.getD (List.take x10.2.2.2.1.2 x10.2.2.2.1.1) (Int.toNat x10.2.1) ((0 : Int), ((0 : Int), ((0 : Int), ((([] : List Int), (0 : Nat)), ()))))).2.2.2.1 fun (x33 : ((List Int) × Nat)) =>
  (lt (Go.IntKind.wrap Go.IntKind.i64 (x15 + (1 : Int))) fun (x34 : Int) =>
  (if (((Bool.not ((x32 == Bool.false) && Bool.true)) || ((Decidable.decide ((0 : Int) ≤ x34)) && (Decidable.decide ((Int.toNat x34) ≤ (List.length x33.1))))) = Bool.true) then
  (lt (Int.toNat x34) fun (x35 : Nat) =>
  (if (((Bool.not ((x32 == Bool.false) && Bool.true)) || ((Decidable.decide ((0 : Int) ≤ x15)) && (Decidable.decide (x15 < (((List.length (List.take x35 x33.1)) : Nat) : Int))))) = Bool.true) then
  (lt (List.getD (List.take x35 x33.1) (Int.toNat x15) (0 : Int)) fun (x36 : Int) =>
  (lt (x36 != (Neg.neg (77 : Int))) fun (x37 : Bool) =>
  (lt (if (x32 = Bool.true) then
  Bool.true
  else x37) fun (x38 : Bool) =>
  (if (x38 = Bool.true) then
  (Option.some ((Bool.false, ()), ()))
  else (shr (d9_K2 x13) (fun (x39 : ((Unit × (((List WN) × Nat) × (((List WN) × Nat) × (Int × Unit)))) → (Option ((Bool × Unit) × Unit)))) => (loopN (d9_L4 x39) x0 ((), ((0 : Int), (x10.2.1, (x10.2.2.1, (x10.2.2.2.1, (x15, ())))))))))))))
  else (Option.none)))
  else (Option.none))))
  else (Option.none)))
  else (Option.none)))
  else (Option.none))))))
  else (Option.none)))))
  else (Option.none)))
  else (Option.none)))))
  else (Option.none)))
  else (Option.none))))
  else (Option.none)))
  else (Option.none))))
  else (Option.none))))
  else (x8 ((), ())))))))
def d9 : (Nat → ((((List WN) × Nat) × (((List WN) × Nat) × Unit)) → (Option ((Bool × Unit) × Unit)))) :=
  (fun (x0 : Nat) => (fun (x1 : (((List WN) × Nat) × (((List WN) × Nat) × Unit))) => (lt (((List.length (List.take x1.2.1.2 x1.2.1.1)) : Nat) : Int) fun (x2 : Int) =>
  (lt (Go.IntKind.wrap Go.IntKind.i64 (x2 + (1 : Int))) fun (x3 : Int) =>
  (if (((Decidable.decide ((0 : Int) ≤ x3)) && (Decidable.decide ((Int.toNat x3) ≤ (List.length x1.1.1)))) = Bool.true) then
  (lt (Int.toNat x3) fun (x4 : Nat) =>
  (lt (((List.length (List.take x1.2.1.2 x1.2.1.1)) : Nat) : Int) fun (x5 : Int) =>
  (if (((Decidable.decide ((0 : Int) ≤ x5)) && (Decidable.decide (x5 < (((List.length (List.take x4 x1.1.1)) : Nat) : Int)))) = Bool.true) then
  (lt (List.getD (List.take x4 x1.1.1) (Int.toNat x5) ((0 : Int), ((0 : Int), ((0 : Int), ((([] : List Int), (0 : Nat)), ()))))).1 fun (x6 : Int) =>
  (lt (x6 != (Neg.neg (77 : Int))) fun (x7 : Bool) =>
  (if (x7 = Bool.true) then
  (Option.some ((Bool.false, ()), ()))
  else (shr (fun (x8 : (Unit × Unit)) => (Option.some ((Bool.true, ()), ()))) (fun (x8 : ((Unit × Unit) → (Option ((Bool × Unit) × Unit)))) => (loopN (d9_L5 x0 x8) x0 ((), ((0 : Int), (x1.2.1, (x1.1, ()))))))))))
  else (Option.none))))
  else (Option.none))))))
theorem k9 : c_fn Try.prog ⟨[], ksW⟩ Try.f9 s9 h9 = some d9 := by kernel_rfl
/-- bulkhead/bulkheadref24.sameChannel -/
def s47 : Sig := ⟨[(kCH, .val), (kCH, .val)], [(.bool, .val)]⟩
 def h47 : Hint := (.seq .leaf
   (.seq (.seq .leaf
   (.cond none
     (.seq .leaf
     .leaf)
     .leaf))
   (.seq (.seq .leaf
   (.block ⟨[], []⟩ true
     (.loop ⟨[((.ptr 42 kCH), (.ow .sh), (3, 0)), ((.ptr 42 kCH), (.ow .sh), (2, 0))], [((5, 0), (.val (.int .i64))), ((3, 0), (.own 0)), ((2, 0), (.own 1))]⟩
       (.seq (.seq .leaf
       (.cond none
         .leaf
         .leaf))
       (.seq (.block ⟨[((.ptr 42 kCH), (.ow .sh), (3, 0)), ((.ptr 42 kCH), (.ow .sh), (2, 0))], [((3, 0), (.own 0)), ((2, 0), (.own 1)), ((5, 0), (.val (.int .i64)))]⟩ true
         (.seq .leaf
         (.cond none
           (.seq .leaf
           .leaf)
           .leaf)))
       .leaf)))))
   (.seq .leaf
   .leaf))))
def d47_K1 (x14 : (((CH × (CH × Unit)) × (Int × Unit)) → (Option ((Bool × Unit) × Unit)))) : (((CH × (CH × Unit)) × (Int × Unit)) → (Option ((Bool × Unit) × Unit))) :=
  (fun (x18 : ((CH × (CH × Unit)) × (Int × Unit))) => (x14 ((x18.1.1, (x18.1.2.1, ())), ((Go.IntKind.wrap Go.IntKind.i64 (x18.2.1 + (1 : Int))), ()))))
def d47_L2 (x13 : ((Unit × Unit) → (Option ((Bool × Unit) × Unit)))) : ((((CH × (CH × Unit)) × (Int × Unit)) → (Option ((Bool × Unit) × Unit))) → (((CH × (CH × Unit)) × (Int × Unit)) → (Option ((Bool × Unit) × Unit)))) :=
  (fun (x14 : (((CH × (CH × Unit)) × (Int × Unit)) → (Option ((Bool × Unit) × Unit)))) => (fun (x15 : ((CH × (CH × Unit)) × (Int × Unit))) => (lt (((List.length x15.1.2.1.2.2.1) : Nat) : Int) fun (x16 : Int) =>
  (lt (Decidable.decide (x15.2.1 < x16)) fun (x17 : Bool) =>
  (if (x17 = Bool.true) then
  (shr (d47_K1 x14) (fun (x18 : (((CH × (CH × Unit)) × (Int × Unit)) → (Option ((Bool × Unit) × Unit)))) => (if (((Decidable.decide ((0 : Int) ≤ x15.2.1)) && (Decidable.decide (x15.2.1 < (((List.length x15.1.2.1.2.2.1) : Nat) : Int)))) = Bool.true) then
  (lt (List.getD x15.1.2.1.2.2.1 (Int.toNat x15.2.1) (0 : Int)) fun (x19 : Int) =>
  (if (((Decidable.decide ((0 : Int) ≤ x15.2.1)) && (Decidable.decide (x15.2.1 < (((List.length x15.1.1.2.2.1) : Nat) : Int)))) = Bool.true) then
  (lt (List.getD x15.1.1.2.2.1 (Int.toNat x15.2.1) (0 : Int)) fun (x20 : Int) =>
  (lt (x19 != x20) fun (x21 : Bool) =>
  (if (x21 = Bool.true) then
  (Option.some ((Bool.false, ()), ()))
  else (x18 ((x15.1.1, (x15.1.2.1, ())), (x15.2.1, ()))))))
  else (Option.none)))
  else (Option.none))))
  else (x13 ((), ())))))))
def d47 : (Nat → ((CH × (CH × Unit)) → (Option ((Bool × Unit) × Unit)))) :=
  (fun (x0 : Nat) => (fun (x1 : (CH × (CH × Unit))) => (lt (x1.1.1 != x1.2.1.1) fun (x2 : Bool) =>
  (lt (x1.1.2.1 != x1.2.1.2.1) fun (x3 : Bool) =>
  (lt (if (x2 = Bool.true) then
  Bool.true
  else x3) fun (x4 : Bool) =>
  (lt (x1.1.2.2.2.1 != x1.2.1.2.2.2.1) fun (x5 : Bool) =>
  (lt (if (x4 = Bool.true) then
  Bool.true
  else x5) fun (x6 : Bool) =>
  (lt (x1.1.2.2.2.2.1 != x1.2.1.2.2.2.2.1) fun (x7 : Bool) =>
  (lt (if (x6 = Bool.true) then
  Bool.true
  else x7) fun (x8 : Bool) =>
  (lt (((List.length x1.1.2.2.1) : Nat) : Int) fun (x9 : Int) =>
  (lt (((List.length x1.2.1.2.2.1) : Nat) : Int) fun (x10 : Int) =>
  (lt (x9 != x10) fun (x11 : Bool) =>
  (lt (if (x8 = Bool.true) then
  Bool.true
  else x11) fun (x12 : Bool) =>
  (if (x12 = Bool.true) then
  (Option.some ((Bool.false, ()), ()))
  else (shr (fun (x13 : (Unit × Unit)) => (Option.some ((Bool.true, ()), ()))) (fun (x13 : ((Unit × Unit) → (Option ((Bool × Unit) × Unit)))) => (loopN (d47_L2 x13) x0 ((x1.2.1, (x1.1, ())), ((0 : Int), ())))))))))))))))))))
theorem k47 : c_fn Try.prog ⟨[], ks0⟩ Try.f47 s47 h47 = some d47 := by kernel_rfl
/-- bulkhead/bulkheadref24.SameRoads -/
def s29 : Sig := ⟨[(kIM, .val), (kIM, .val)], [(.bool, .val)]⟩
 def h29 : Hint := (.seq .leaf
   (.seq (.seq .leaf
   (.cond none
     (.seq .leaf
     .leaf)
     .leaf))
   (.seq (.seq .leaf
   (.block ⟨[((.ptr 26 kIM), (.ow .sh), (3, 0)), ((.ptr 26 kIM), (.ow .sh), (2, 0))], [((3, 0), (.own 0)), ((2, 0), (.own 1))]⟩ true
     (.loop ⟨[((.ptr 26 kIM), (.ow .sh), (3, 0)), ((.ptr 26 kIM), (.ow .sh), (2, 0))], [((5, 0), (.val (.int .i64))), ((3, 0), (.own 0)), ((2, 0), (.own 1))]⟩
       (.seq (.seq .leaf
       (.cond none
         .leaf
         .leaf))
       (.seq (.block ⟨[((.ptr 26 kIM), (.ow .sh), (3, 0)), ((.ptr 26 kIM), (.ow .sh), (2, 0))], [((3, 0), (.own 0)), ((2, 0), (.own 1)), ((5, 0), (.val (.int .i64)))]⟩ true
         (.seq .leaf
         (.cond none
           (.seq .leaf
           .leaf)
           .leaf)))
       .leaf)))))
   (.seq (.seq .leaf
   (.block ⟨[((.ptr 26 kIM), (.ow .sh), (3, 0)), ((.ptr 26 kIM), (.ow .sh), (2, 0))], [((3, 0), (.own 0)), ((2, 0), (.own 1))]⟩ true
     (.loop ⟨[((.ptr 26 kIM), (.ow .sh), (3, 0)), ((.ptr 26 kIM), (.ow .sh), (2, 0))], [((6, 0), (.val (.int .i64))), ((3, 0), (.own 0)), ((2, 0), (.own 1))]⟩
       (.seq (.seq .leaf
       (.cond none
         .leaf
         .leaf))
       (.seq (.block ⟨[((.ptr 26 kIM), (.ow .sh), (3, 0)), ((.ptr 26 kIM), (.ow .sh), (2, 0))], [((3, 0), (.own 0)), ((2, 0), (.own 1)), ((6, 0), (.val (.int .i64)))]⟩ true
         (.seq .leaf
         (.cond none
           (.seq .leaf
           .leaf)
           .leaf)))
       .leaf)))))
   (.seq (.seq .leaf
   (.block ⟨[], []⟩ true
     (.loop ⟨[((.ptr 26 kIM), (.ow .sh), (3, 0)), ((.ptr 26 kIM), (.ow .sh), (2, 0))], [((7, 0), (.val (.int .i64))), ((3, 0), (.own 0)), ((2, 0), (.own 1))]⟩
       (.seq (.seq .leaf
       (.cond none
         .leaf
         .leaf))
       (.seq (.block ⟨[((.ptr 26 kIM), (.ow .sh), (3, 0)), ((.ptr 26 kIM), (.ow .sh), (2, 0))], [((3, 0), (.own 0)), ((2, 0), (.own 1)), ((7, 0), (.val (.int .i64)))]⟩ true
         (.seq .leaf
         (.cond none
           (.seq .leaf
           .leaf)
           .leaf)))
       .leaf)))))
   (.seq .leaf
   .leaf))))))
def d29_K1 (x16 : (((IM × (IM × Unit)) × (Int × Unit)) → (Option ((Bool × Unit) × Unit)))) : (((IM × (IM × Unit)) × (Int × Unit)) → (Option ((Bool × Unit) × Unit))) :=
  (fun (x20 : ((IM × (IM × Unit)) × (Int × Unit))) => (x16 ((x20.1.1, (x20.1.2.1, ())), ((Go.IntKind.wrap Go.IntKind.i64 (x20.2.1 + (1 : Int))), ()))))
def d29_L2 (x0 : Nat) (x15 : ((Unit × Unit) → (Option ((Bool × Unit) × Unit)))) : ((((IM × (IM × Unit)) × (Int × Unit)) → (Option ((Bool × Unit) × Unit))) → (((IM × (IM × Unit)) × (Int × Unit)) → (Option ((Bool × Unit) × Unit)))) :=
  (fun (x16 : (((IM × (IM × Unit)) × (Int × Unit)) → (Option ((Bool × Unit) × Unit)))) => (fun (x17 : ((IM × (IM × Unit)) × (Int × Unit))) => (lt (((List.length x17.1.2.1.2.2.1) : Nat) : Int) fun (x18 : Int) =>
  (lt (Decidable.decide (x17.2.1 < x18)) fun (x19 : Bool) =>
  (if (x19 = Bool.true) then
  (shr (d29_K1 x16) (fun (x20 : (((IM × (IM × Unit)) × (Int × Unit)) → (Option ((Bool × Unit) × Unit)))) => (if (((Decidable.decide ((0 : Int) ≤ x17.2.1)) && (Decidable.decide (x17.2.1 < (((List.length x17.1.2.1.2.2.1) : Nat) : Int)))) = Bool.true) then
  (lt (List.getD x17.1.2.1.2.2.1 (Int.toNat x17.2.1) ((0 : Int), ((0 : Int), (([] : List Int), ((0 : Int), ((0 : Int), ())))))) fun (x21 : CH) =>
  (if (((Decidable.decide ((0 : Int) ≤ x17.2.1)) && (Decidable.decide (x17.2.1 < (((List.length x17.1.1.2.2.1) : Nat) : Int)))) = Bool.true) then
  (lt (List.getD x17.1.1.2.2.1 (Int.toNat x17.2.1) ((0 : Int), ((0 : Int), (([] : List Int), ((0 : Int), ((0 : Int), ())))))) fun (x22 : CH) =>
  (Option.bind (d47 x0 (x21, (x22, ()))) fun (x23 : ((Bool × Unit) × Unit)) =>
  (lt (Bool.not x23.1.1) fun (x24 : Bool) =>
  (if (x24 = Bool.true) then
  (Option.some ((Bool.false, ()), ()))
  else (x20 ((x17.1.1, (x17.1.2.1, ())), (x17.2.1, ())))))))
  else (Option.none)))
  else (Option.none))))
  else (x15 ((), ())))))))
def d29_K3 (x0 : Nat) : (((IM × (IM × Unit)) × Unit) → (Option ((Bool × Unit) × Unit))) :=
  (fun (x14 : ((IM × (IM × Unit)) × Unit)) => (shr (fun (x15 : (Unit × Unit)) => (Option.some ((Bool.true, ()), ()))) (fun (x15 : ((Unit × Unit) → (Option ((Bool × Unit) × Unit)))) => (loopN (d29_L2 x0 x15) x0 ((x14.1.1, (x14.1.2.1, ())), ((0 : Int), ()))))))
def d29_K4 (x15 : (((IM × (IM × Unit)) × (Int × Unit)) → (Option ((Bool × Unit) × Unit)))) : (((IM × (IM × Unit)) × (Int × Unit)) → (Option ((Bool × Unit) × Unit))) :=
  (fun (x19 : ((IM × (IM × Unit)) × (Int × Unit))) => (x15 ((x19.1.1, (x19.1.2.1, ())), ((Go.IntKind.wrap Go.IntKind.i64 (x19.2.1 + (1 : Int))), ()))))
def d29_L5 (x14 : (((IM × (IM × Unit)) × Unit) → (Option ((Bool × Unit) × Unit)))) : ((((IM × (IM × Unit)) × (Int × Unit)) → (Option ((Bool × Unit) × Unit))) → (((IM × (IM × Unit)) × (Int × Unit)) → (Option ((Bool × Unit) × Unit)))) :=
  (fun (x15 : (((IM × (IM × Unit)) × (Int × Unit)) → (Option ((Bool × Unit) × Unit)))) => (fun (x16 : ((IM × (IM × Unit)) × (Int × Unit))) => (lt (((List.length x16.1.2.1.2.1) : Nat) : Int) fun (x17 : Int) =>
  (lt (Decidable.decide (x16.2.1 < x17)) fun (x18 : Bool) =>
  (if (x18 = Bool.true) then
  (shr (d29_K4 x15) (fun (x19 : (((IM × (IM × Unit)) × (Int × Unit)) → (Option ((Bool × Unit) × Unit)))) => (if (((Decidable.decide ((0 : Int) ≤ x16.2.1)) && (Decidable.decide (x16.2.1 < (((List.length x16.1.2.1.2.1) : Nat) : Int)))) = Bool.true) then
  (lt (List.getD x16.1.2.1.2.1 (Int.toNat x16.2.1) ((0 : Int), ((0 : Int), (Bool.false, ((0 : Int), ((0 : Int), ((0 : Int), ()))))))) fun (x20 : PO) =>
  (if (((Decidable.decide ((0 : Int) ≤ x16.2.1)) && (Decidable.decide (x16.2.1 < (((List.length x16.1.1.2.1) : Nat) : Int)))) = Bool.true) then
  (lt (List.getD x16.1.1.2.1 (Int.toNat x16.2.1) ((0 : Int), ((0 : Int), (Bool.false, ((0 : Int), ((0 : Int), ((0 : Int), ()))))))) fun (x21 : PO) =>
  (lt (Bool.not ((x20.1 == x21.1) && ((x20.2.1 == x21.2.1) && ((x20.2.2.1 == x21.2.2.1) && ((x20.2.2.2.1 == x21.2.2.2.1) && ((x20.2.2.2.2.1 == x21.2.2.2.2.1) && ((x20.2.2.2.2.2.1 == x21.2.2.2.2.2.1) && Bool.true))))))) fun (x22 : Bool) =>
  (if (x22 = Bool.true) then
  (Option.some ((Bool.false, ()), ()))
  else (x19 ((x16.1.1, (x16.1.2.1, ())), (x16.2.1, ()))))))
  else (Option.none)))
  else (Option.none))))
  else (x14 ((x16.1.1, (x16.1.2.1, ())), ())))))))
def d29_K6 (x0 : Nat) : (((IM × (IM × Unit)) × Unit) → (Option ((Bool × Unit) × Unit))) :=
  (fun (x13 : ((IM × (IM × Unit)) × Unit)) => (shr (d29_K3 x0) (fun (x14 : (((IM × (IM × Unit)) × Unit) → (Option ((Bool × Unit) × Unit)))) => (loopN (d29_L5 x14) x0 ((x13.1.1, (x13.1.2.1, ())), ((0 : Int), ()))))))
def d29_K7 (x14 : (((IM × (IM × Unit)) × (Int × Unit)) → (Option ((Bool × Unit) × Unit)))) : (((IM × (IM × Unit)) × (Int × Unit)) → (Option ((Bool × Unit) × Unit))) :=
  (fun (x18 : ((IM × (IM × Unit)) × (Int × Unit))) => (x14 ((x18.1.1, (x18.1.2.1, ())), ((Go.IntKind.wrap Go.IntKind.i64 (x18.2.1 + (1 : Int))), ()))))
def d29_L8 (x13 : (((IM × (IM × Unit)) × Unit) → (Option ((Bool × Unit) × Unit)))) : ((((IM × (IM × Unit)) × (Int × Unit)) → (Option ((Bool × Unit) × Unit))) → (((IM × (IM × Unit)) × (Int × Unit)) → (Option ((Bool × Unit) × Unit)))) :=
  (fun (x14 : (((IM × (IM × Unit)) × (Int × Unit)) → (Option ((Bool × Unit) × Unit)))) => (fun (x15 : ((IM × (IM × Unit)) × (Int × Unit))) => (lt (((List.length x15.1.2.1.1) : Nat) : Int) fun (x16 : Int) =>
  (lt (Decidable.decide (x15.2.1 < x16)) fun (x17 : Bool) =>
  (if (x17 = Bool.true) then
  (shr (d29_K7 x14) (fun (x18 : (((IM × (IM × Unit)) × (Int × Unit)) → (Option ((Bool × Unit) × Unit)))) => (if (((Decidable.decide ((0 : Int) ≤ x15.2.1)) && (Decidable.decide (x15.2.1 < (((List.length x15.1.2.1.1) : Nat) : Int)))) = Bool.true) then
  (lt (List.getD x15.1.2.1.1 (Int.toNat x15.2.1) (((0 : Int), ((0 : Int), ((0 : Int), ((0 : Int), ())))), ((0 : Int), ((0 : Int), (([] : List Int), (([] : List IS), (([] : List PC), ((0 : Int), ((List.replicate (8 : Nat) (0 : Int)), (([] : List I2), (([] : List Bool), (([] : List I2), ())))))))))))).1 fun (x19 : SV) =>
  (if (((Decidable.decide ((0 : Int) ≤ x15.2.1)) && (Decidable.decide (x15.2.1 < (((List.length x15.1.1.1) : Nat) : Int)))) = Bool.true) then
  (lt (List.getD x15.1.1.1 (Int.toNat x15.2.1) (((0 : Int), ((0 : Int), ((0 : Int), ((0 : Int), ())))), ((0 : Int), ((0 : Int), (([] : List Int), (([] : List IS), (([] : List PC), ((0 : Int), ((List.replicate (8 : Nat) (0 : Int)), (([] : List I2), (([] : List Bool), (([] : List I2), ())))))))))))).1 fun (x20 : SV) =>
  (lt (Bool.not ((x19.1 == x20.1) && ((x19.2.1 == x20.2.1) && ((x19.2.2.1 == x20.2.2.1) && ((x19.2.2.2.1 == x20.2.2.2.1) && Bool.true))))) fun (x21 : Bool) =>
  (if (x21 = Bool.true) then
  (Option.some ((Bool.false, ()), ()))
  else (x18 ((x15.1.1, (x15.1.2.1, ())), (x15.2.1, ()))))))
  else (Option.none)))
  else (Option.none))))
  else (x13 ((x15.1.1, (x15.1.2.1, ())), ())))))))
def d29 : (Nat → ((IM × (IM × Unit)) → (Option ((Bool × Unit) × Unit)))) :=
  (fun (x0 : Nat) => (fun (x1 : (IM × (IM × Unit))) => (lt (((List.length x1.1.1) : Nat) : Int) fun (x2 : Int) =>
  (lt (((List.length x1.2.1.1) : Nat) : Int) fun (x3 : Int) =>
  (lt (x2 != x3) fun (x4 : Bool) =>
  (lt (((List.length x1.1.2.1) : Nat) : Int) fun (x5 : Int) =>
  (lt (((List.length x1.2.1.2.1) : Nat) : Int) fun (x6 : Int) =>
  (lt (x5 != x6) fun (x7 : Bool) =>
  (lt (if (x4 = Bool.true) then
  Bool.true
  else x7) fun (x8 : Bool) =>
  (lt (((List.length x1.1.2.2.1) : Nat) : Int) fun (x9 : Int) =>
  (lt (((List.length x1.2.1.2.2.1) : Nat) : Int) fun (x10 : Int) =>
  (lt (x9 != x10) fun (x11 : Bool) =>
  (lt (if (x8 = Bool.true) then
  Bool.true
  else x11) fun (x12 : Bool) =>
  (if (x12 = Bool.true) then
  (Option.some ((Bool.false, ()), ()))
  else (shr (d29_K6 x0) (fun (x13 : (((IM × (IM × Unit)) × Unit) → (Option ((Bool × Unit) × Unit)))) => (loopN (d29_L8 x13) x0 ((x1.2.1, (x1.1, ())), ((0 : Int), ())))))))))))))))))))
theorem k29 : c_fn Try.prog ⟨[(47, ⟨s47, d47⟩)], ks0⟩ Try.f29 s29 h29 = some d29 := by kernel_rfl
/-- bulkhead/bulkheadref24.there -/
def s48 : Sig := ⟨[(kIM, .val), ((.int .i64), .val)], [(.bool, .val)]⟩
 def h48 : Hint := (.seq .leaf
   (.seq .leaf
   .leaf))
def d48 : (Nat → ((IM × (Int × Unit)) → (Option ((Bool × Unit) × Unit)))) :=
  (fun (x0 : Nat) => (fun (x1 : (IM × (Int × Unit))) => (lt (Decidable.decide (x1.2.1 ≥ (1 : Int))) fun (x2 : Bool) =>
  (lt (((List.length x1.1.1) : Nat) : Int) fun (x3 : Int) =>
  (lt (Decidable.decide (x1.2.1 ≤ x3)) fun (x4 : Bool) =>
  (Option.some (((if (x2 = Bool.true) then
  x4
  else Bool.false), ()), ())))))))
theorem k48 : c_fn Try.prog ⟨[], ks0⟩ Try.f48 s48 h48 = some d48 := by kernel_rfl
/-- bulkhead/bulkheadref24.of -/
def s66 : Sig := ⟨[(kIM, .val), ((.int .i64), .val)], [((.int .i64), .val)]⟩
 def h66 : Hint := (.seq .leaf
   (.seq (.seq .leaf
   (.cond none
     (.seq .leaf
     .leaf)
     .leaf))
   (.seq .leaf
   .leaf)))
def d66 : (Nat → ((IM × (Int × Unit)) → (Option ((Int × Unit) × Unit)))) :=
  (fun (x0 : Nat) => (fun (x1 : (IM × (Int × Unit))) => (lt (Decidable.decide (x1.2.1 < (1 : Int))) fun (x2 : Bool) =>
  (lt (((List.length x1.1.2.1) : Nat) : Int) fun (x3 : Int) =>
  (lt (Decidable.decide (x1.2.1 > x3)) fun (x4 : Bool) =>
  (lt (if (x2 = Bool.true) then
  Bool.true
  else x4) fun (x5 : Bool) =>
  (lt (Go.IntKind.wrap Go.IntKind.i64 (x1.2.1 - (1 : Int))) fun (x6 : Int) =>
  (if (((Bool.not ((x5 == Bool.false) && Bool.true)) || ((Decidable.decide ((0 : Int) ≤ x6)) && (Decidable.decide (x6 < (((List.length x1.1.2.1) : Nat) : Int))))) = Bool.true) then
  (lt (List.getD x1.1.2.1 (Int.toNat x6) ((0 : Int), ((0 : Int), (Bool.false, ((0 : Int), ((0 : Int), ((0 : Int), ()))))))).1 fun (x7 : Int) =>
  (Option.bind (if (((x5 == Bool.false) && Bool.true) = Bool.true) then
  (d48 x0 (x1.1, (x7, ())))
  else (Option.some ((Bool.false, ()), ()))) fun (x8 : ((Bool × Unit) × Unit)) =>
  (lt (Bool.not x8.1.1) fun (x9 : Bool) =>
  (lt (if (x5 = Bool.true) then
  Bool.true
  else x9) fun (x10 : Bool) =>
  (if (x10 = Bool.true) then
  (Option.some (((0 : Int), ()), ()))
  else (lt (Go.IntKind.wrap Go.IntKind.i64 (x1.2.1 - (1 : Int))) fun (x11 : Int) =>
  (if (((Decidable.decide ((0 : Int) ≤ x11)) && (Decidable.decide (x11 < (((List.length x1.1.2.1) : Nat) : Int)))) = Bool.true) then
  (Option.some (((List.getD x1.1.2.1 (Int.toNat x11) ((0 : Int), ((0 : Int), (Bool.false, ((0 : Int), ((0 : Int), ((0 : Int), ()))))))).1, ()), ()))
  else (Option.none))))))))
  else (Option.none)))))))))
theorem k66 : c_fn Try.prog ⟨[(48, ⟨s48, d48⟩)], ks0⟩ Try.f66 s66 h66 = some d66 := by kernel_rfl
/-- bulkhead/bulkheadref24.leads -/
def s61 : Sig := ⟨[(kIM, .val), (kCH, .val), ((.int .i64), .val)], [(.bool, .val)]⟩
 def h61 : Hint := (.seq .leaf
   (.seq (.seq .leaf
   (.block ⟨[], []⟩ true
     (.loop ⟨[((.ptr 42 kCH), (.ow .sh), (4, 0)), ((.ptr 26 kIM), (.ow .sh), (3, 0))], [((7, 0), (.val (.int .i64))), ((2, 0), (.val (.int .i64))), ((4, 0), (.own 0)), ((3, 0), (.own 1))]⟩
       (.seq (.seq .leaf
       (.cond none
         .leaf
         .leaf))
       (.seq (.block ⟨[((.ptr 42 kCH), (.ow .sh), (4, 0)), ((.ptr 26 kIM), (.ow .sh), (3, 0))], [((2, 0), (.val (.int .i64))), ((4, 0), (.own 0)), ((3, 0), (.own 1)), ((7, 0), (.val (.int .i64)))]⟩ true
         (.seq .leaf
         (.cond none
           (.seq .leaf
           .leaf)
           .leaf)))
       .leaf)))))
   (.seq .leaf
   .leaf)))
def d61_K1 (x3 : (((CH × (IM × Unit)) × I2) → (Option ((Bool × Unit) × Unit)))) : (((CH × (IM × Unit)) × I2) → (Option ((Bool × Unit) × Unit))) :=
  (fun (x7 : ((CH × (IM × Unit)) × I2)) => (x3 ((x7.1.1, (x7.1.2.1, ())), ((Go.IntKind.wrap Go.IntKind.i64 (x7.2.2.1 + (1 : Int))), (x7.2.1, ())))))
def d61_L2 (x0 : Nat) (x2 : ((Unit × Unit) → (Option ((Bool × Unit) × Unit)))) : ((((CH × (IM × Unit)) × I2) → (Option ((Bool × Unit) × Unit))) → (((CH × (IM × Unit)) × I2) → (Option ((Bool × Unit) × Unit)))) :=
  (fun (x3 : (((CH × (IM × Unit)) × I2) → (Option ((Bool × Unit) × Unit)))) => (fun (x4 : ((CH × (IM × Unit)) × I2)) => (lt (((List.length x4.1.1.2.2.1) : Nat) : Int) fun (x5 : Int) =>
  (lt (Decidable.decide (x4.2.1 < x5)) fun (x6 : Bool) =>
  (if (x6 = Bool.true) then
  (shr (d61_K1 x3) (fun (x7 : (((CH × (IM × Unit)) × I2) → (Option ((Bool × Unit) × Unit)))) => (if (((Decidable.decide ((0 : Int) ≤ x4.2.1)) && (Decidable.decide (x4.2.1 < (((List.length x4.1.1.2.2.1) : Nat) : Int)))) = Bool.true) then
  (lt (List.getD x4.1.1.2.2.1 (Int.toNat x4.2.1) (0 : Int)) fun (x8 : Int) =>
  (Option.bind (d66 x0 (x4.1.2.1, (x8, ()))) fun (x9 : ((Int × Unit) × Unit)) =>
  (lt (x9.1.1 == x4.2.2.1) fun (x10 : Bool) =>
  (if (x10 = Bool.true) then
  (Option.some ((Bool.true, ()), ()))
  else (x7 ((x4.1.1, (x4.1.2.1, ())), (x4.2.2.1, (x4.2.1, ()))))))))
  else (Option.none))))
  else (x2 ((), ())))))))
def d61 : (Nat → ((IM × (CH × (Int × Unit))) → (Option ((Bool × Unit) × Unit)))) :=
  (fun (x0 : Nat) => (fun (x1 : (IM × (CH × (Int × Unit)))) => (shr (fun (x2 : (Unit × Unit)) => (Option.some ((Bool.false, ()), ()))) (fun (x2 : ((Unit × Unit) → (Option ((Bool × Unit) × Unit)))) => (loopN (d61_L2 x0 x2) x0 ((x1.2.1, (x1.1, ())), ((0 : Int), (x1.2.2.1, ()))))))))
theorem k61 : c_fn Try.prog ⟨[(66, ⟨s66, d66⟩)], ks0⟩ Try.f61 s61 h61 = some d61 := by kernel_rfl
/-- bulkhead/bulkheadref24.joined -/
def s65 : Sig := ⟨[(kIM, .val), ((.int .i64), .val), ((.int .i64), .val)], [(.bool, .val)]⟩
 def h65 : Hint := (.seq .leaf
   (.seq (.seq .leaf
   (.block ⟨[], []⟩ true
     (.loop ⟨[((.ptr 26 kIM), (.ow .sh), (3, 0))], [((7, 0), (.val (.int .i64))), ((2, 0), (.val (.int .i64))), ((3, 0), (.own 0)), ((1, 0), (.val (.int .i64)))]⟩
       (.seq (.seq .leaf
       (.cond none
         .leaf
         .leaf))
       (.seq (.block ⟨[((.ptr 26 kIM), (.ow .sh), (3, 0))], [((2, 0), (.val (.int .i64))), ((3, 0), (.own 0)), ((1, 0), (.val (.int .i64))), ((7, 0), (.val (.int .i64)))]⟩ true
         (.seq .leaf
         (.seq .leaf
         (.cond none
           (.seq .leaf
           .leaf)
           .leaf))))
       .leaf)))))
   (.seq .leaf
   .leaf)))
def d65_K1 (x3 : (((IM × Unit) × (Int × I2)) → (Option ((Bool × Unit) × Unit)))) : (((IM × Unit) × (Int × I2)) → (Option ((Bool × Unit) × Unit))) :=
  (fun (x7 : ((IM × Unit) × (Int × I2))) => (x3 ((x7.1.1, ()), ((Go.IntKind.wrap Go.IntKind.i64 (x7.2.2.2.1 + (1 : Int))), (x7.2.1, (x7.2.2.1, ()))))))
def d65_L2 (x0 : Nat) (x2 : ((Unit × Unit) → (Option ((Bool × Unit) × Unit)))) : ((((IM × Unit) × (Int × I2)) → (Option ((Bool × Unit) × Unit))) → (((IM × Unit) × (Int × I2)) → (Option ((Bool × Unit) × Unit)))) :=
  (fun (x3 : (((IM × Unit) × (Int × I2)) → (Option ((Bool × Unit) × Unit)))) => (fun (x4 : ((IM × Unit) × (Int × I2))) => (lt (((List.length x4.1.1.2.2.1) : Nat) : Int) fun (x5 : Int) =>
  (lt (Decidable.decide (x4.2.1 < x5)) fun (x6 : Bool) =>
  (if (x6 = Bool.true) then
  (shr (d65_K1 x3) (fun (x7 : (((IM × Unit) × (Int × I2)) → (Option ((Bool × Unit) × Unit)))) => (if (((Decidable.decide ((0 : Int) ≤ x4.2.1)) && (Decidable.decide (x4.2.1 < (((List.length x4.1.1.2.2.1) : Nat) : Int)))) = Bool.true) then
  (lt (List.getD x4.1.1.2.2.1 (Int.toNat x4.2.1) ((0 : Int), ((0 : Int), (([] : List Int), ((0 : Int), ((0 : Int), ())))))) fun (x8 : CH) =>
  (Option.bind (d66 x0 (x4.1.1, (x8.2.1, ()))) fun (x9 : ((Int × Unit) × Unit)) =>
  (lt (x9.1.1 == x4.2.2.2.1) fun (x10 : Bool) =>
  (Option.bind (if (((x10 == Bool.true) && Bool.true) = Bool.true) then
  (d61 x0 (x4.1.1, (x8, (x4.2.2.1, ()))))
  else (Option.some ((Bool.false, ()), ()))) fun (x11 : ((Bool × Unit) × Unit)) =>
  (lt (if (x10 = Bool.true) then
  x11.1.1
  else Bool.false) fun (x12 : Bool) =>
  (if (x12 = Bool.true) then
  (Option.some ((Bool.true, ()), ()))
  else (x7 ((x4.1.1, ()), (x4.2.2.1, (x4.2.2.2.1, (x4.2.1, ())))))))))))
  else (Option.none))))
  else (x2 ((), ())))))))
def d65 : (Nat → ((IM × I2) → (Option ((Bool × Unit) × Unit)))) :=
  (fun (x0 : Nat) => (fun (x1 : (IM × I2)) => (shr (fun (x2 : (Unit × Unit)) => (Option.some ((Bool.false, ()), ()))) (fun (x2 : ((Unit × Unit) → (Option ((Bool × Unit) × Unit)))) => (loopN (d65_L2 x0 x2) x0 ((x1.1, ()), ((0 : Int), (x1.2.2.1, (x1.2.1, ())))))))))
theorem k65 : c_fn Try.prog ⟨[(66, ⟨s66, d66⟩), (61, ⟨s61, d61⟩)], ks0⟩ Try.f65 s65 h65 = some d65 := by kernel_rfl
/-- bulkhead/bulkheadref24.Direct -/
def s59 : Sig := ⟨[(kIM, .val)], [((.sl 50 (.sl 4 .bool)), (.own (.ow (.ow .sh))))]⟩
 def h59 : Hint := (.seq .leaf
   (.seq .leaf
   (.seq (.seq .leaf
   (.block ⟨[((.sl 50 (.sl 4 .bool)), (.ow (.ow .sh)), (3, 0))], [((3, 0), (.own 0))]⟩ true
     (.loop ⟨[((.ptr 26 kIM), (.ow .sh), (1, 0)), ((.sl 50 (.sl 4 .bool)), (.ow (.ow .sh)), (3, 0))], [((4, 0), (.val (.int .i64))), ((1, 0), (.own 0)), ((3, 0), (.own 1))]⟩
       (.seq (.seq .leaf
       (.cond none
         .leaf
         .leaf))
       (.seq (.block ⟨[((.ptr 26 kIM), (.ow .sh), (1, 0)), ((.sl 50 (.sl 4 .bool)), (.ow (.ow .sh)), (3, 0))], [((1, 0), (.own 0)), ((3, 0), (.own 1)), ((4, 0), (.val (.int .i64)))]⟩ true
         (.seq .leaf
         (.seq (.seq .leaf
         (.block ⟨[((.ptr 26 kIM), (.ow .sh), (1, 0)), ((.sl 4 .bool), (.ow .sh), (5, 0)), ((.sl 50 (.sl 4 .bool)), (.ow (.ow .sh)), (3, 0))], [((1, 0), (.own 0)), ((4, 0), (.val (.int .i64))), ((5, 0), (.own 1)), ((3, 0), (.own 2))]⟩ true
           (.loop ⟨[((.ptr 26 kIM), (.ow .sh), (1, 0)), ((.sl 4 .bool), (.ow .sh), (5, 0)), ((.sl 50 (.sl 4 .bool)), (.ow (.ow .sh)), (3, 0))], [((6, 0), (.val (.int .i64))), ((4, 0), (.val (.int .i64))), ((1, 0), (.own 0)), ((5, 0), (.own 1)), ((3, 0), (.own 2))]⟩
             (.seq (.seq .leaf
             (.cond none
               .leaf
               .leaf))
             (.seq (.block ⟨[((.ptr 26 kIM), (.ow .sh), (1, 0)), ((.sl 4 .bool), (.ow .sh), (5, 0)), ((.sl 50 (.sl 4 .bool)), (.ow (.ow .sh)), (3, 0))], [((4, 0), (.val (.int .i64))), ((1, 0), (.own 0)), ((5, 0), (.own 1)), ((3, 0), (.own 2)), ((6, 0), (.val (.int .i64)))]⟩ true
               .leaf)
             .leaf)))))
         .leaf)))
       .leaf)))))
   (.seq .leaf
   .leaf))))
def d59_K1  : ((((List (List Bool)) × Unit) × Unit) → (Option (((List (List Bool)) × Unit) × Unit))) :=
  (fun (x2 : (((List (List Bool)) × Unit) × Unit)) => (Option.some ((x2.1.1, ()), ())))
def d59_K2 (x3 : (((IM × ((List (List Bool)) × Unit)) × (Int × Unit)) → (Option (((List (List Bool)) × Unit) × Unit)))) : (((IM × ((List (List Bool)) × Unit)) × (Int × Unit)) → (Option (((List (List Bool)) × Unit) × Unit))) :=
  (fun (x7 : ((IM × ((List (List Bool)) × Unit)) × (Int × Unit))) => (x3 ((x7.1.1, (x7.1.2.1, ())), ((Go.IntKind.wrap Go.IntKind.i64 (x7.2.1 + (1 : Int))), ()))))
def d59_K3 (x7 : (((IM × ((List (List Bool)) × Unit)) × (Int × Unit)) → (Option (((List (List Bool)) × Unit) × Unit)))) : (((IM × ((List Bool) × ((List (List Bool)) × Unit))) × (Int × Unit)) → (Option (((List (List Bool)) × Unit) × Unit))) :=
  (fun (x8 : ((IM × ((List Bool) × ((List (List Bool)) × Unit))) × (Int × Unit))) => (lt (x8.1.2.1 :: ([] : List (List Bool))) fun (x9 : (List (List Bool))) =>
  (if ((Go.Lift.appFits (List.length x8.1.2.2.1) (List.length x9) (24 : Nat)) = Bool.true) then
  (x7 ((x8.1.1, ((x8.1.2.2.1 ++ x9), ())), (x8.2.1, ())))
  else (Option.none))))
def d59_K4 (x9 : (((IM × ((List Bool) × ((List (List Bool)) × Unit))) × I2) → (Option (((List (List Bool)) × Unit) × Unit)))) : (((IM × ((List Bool) × ((List (List Bool)) × Unit))) × I2) → (Option (((List (List Bool)) × Unit) × Unit))) :=
  (fun (x13 : ((IM × ((List Bool) × ((List (List Bool)) × Unit))) × I2)) => (x9 ((x13.1.1, (x13.1.2.1, (x13.1.2.2.1, ()))), ((Go.IntKind.wrap Go.IntKind.i64 (x13.2.2.1 + (1 : Int))), (x13.2.1, ())))))
def d59_L5 (x0 : Nat) (x8 : (((IM × ((List Bool) × ((List (List Bool)) × Unit))) × (Int × Unit)) → (Option (((List (List Bool)) × Unit) × Unit)))) : ((((IM × ((List Bool) × ((List (List Bool)) × Unit))) × I2) → (Option (((List (List Bool)) × Unit) × Unit))) → (((IM × ((List Bool) × ((List (List Bool)) × Unit))) × I2) → (Option (((List (List Bool)) × Unit) × Unit)))) :=
  (fun (x9 : (((IM × ((List Bool) × ((List (List Bool)) × Unit))) × I2) → (Option (((List (List Bool)) × Unit) × Unit)))) => (fun (x10 : ((IM × ((List Bool) × ((List (List Bool)) × Unit))) × I2)) => (lt (((List.length x10.1.1.1) : Nat) : Int) fun (x11 : Int) =>
  (lt (Decidable.decide (x10.2.1 ≤ x11)) fun (x12 : Bool) =>
  (if (x12 = Bool.true) then
  (shr (d59_K4 x9) (fun (x13 : (((IM × ((List Bool) × ((List (List Bool)) × Unit))) × I2) → (Option (((List (List Bool)) × Unit) × Unit)))) => (Option.bind (d65 x0 (x10.1.1, (x10.2.2.1, (x10.2.1, ())))) fun (x14 : ((Bool × Unit) × Unit)) =>
  (lt (x14.1.1 :: ([] : List Bool)) fun (x15 : (List Bool)) =>
  (if ((Go.Lift.appFits (List.length x10.1.2.1) (List.length x15) (1 : Nat)) = Bool.true) then
  (x13 ((x10.1.1, ((x10.1.2.1 ++ x15), (x10.1.2.2.1, ()))), (x10.2.2.1, (x10.2.1, ()))))
  else (Option.none))))))
  else (x8 ((x10.1.1, (x10.1.2.1, (x10.1.2.2.1, ()))), (x10.2.2.1, ()))))))))
def d59_L6 (x0 : Nat) (x2 : ((((List (List Bool)) × Unit) × Unit) → (Option (((List (List Bool)) × Unit) × Unit)))) : ((((IM × ((List (List Bool)) × Unit)) × (Int × Unit)) → (Option (((List (List Bool)) × Unit) × Unit))) → (((IM × ((List (List Bool)) × Unit)) × (Int × Unit)) → (Option (((List (List Bool)) × Unit) × Unit)))) :=
  (fun (x3 : (((IM × ((List (List Bool)) × Unit)) × (Int × Unit)) → (Option (((List (List Bool)) × Unit) × Unit)))) => (fun (x4 : ((IM × ((List (List Bool)) × Unit)) × (Int × Unit))) => (lt (((List.length x4.1.1.1) : Nat) : Int) fun (x5 : Int) =>
  (lt (Decidable.decide (x4.2.1 ≤ x5)) fun (x6 : Bool) =>
  (if (x6 = Bool.true) then
  (shr (d59_K2 x3) (fun (x7 : (((IM × ((List (List Bool)) × Unit)) × (Int × Unit)) → (Option (((List (List Bool)) × Unit) × Unit)))) => (shr (d59_K3 x7) (fun (x8 : (((IM × ((List Bool) × ((List (List Bool)) × Unit))) × (Int × Unit)) → (Option (((List (List Bool)) × Unit) × Unit)))) => (loopN (d59_L5 x0 x8) x0 ((x4.1.1, (([] : List Bool), (x4.1.2.1, ()))), ((1 : Int), (x4.2.1, ()))))))))
  else (x2 ((x4.1.2.1, ()), ())))))))
def d59 : (Nat → ((IM × Unit) → (Option (((List (List Bool)) × Unit) × Unit)))) :=
  (fun (x0 : Nat) => (fun (x1 : (IM × Unit)) => (shr d59_K1 (fun (x2 : ((((List (List Bool)) × Unit) × Unit) → (Option (((List (List Bool)) × Unit) × Unit)))) => (loopN (d59_L6 x0 x2) x0 ((x1.1, (([] : List (List Bool)), ())), ((1 : Int), ())))))))
theorem k59 : c_fn Try.prog ⟨[(65, ⟨s65, d65⟩)], ks0⟩ Try.f59 s59 h59 = some d59 := by kernel_rfl
end Go.Proofs.Ytledeaknnihlmaa.L
