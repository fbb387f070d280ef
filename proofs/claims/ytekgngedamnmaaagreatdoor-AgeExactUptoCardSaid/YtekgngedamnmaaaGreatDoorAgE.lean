import Derived.Test.YtekgngedamnmaaaGreatDoorAgD
namespace Go.Proofs.YtekgngedamnmaaaGreatDoor.L
open Go Go.Lift Go.Proofs
set_option maxRecDepth 100000
set_option linter.unusedVariables false
def ksW : List (TypeId × Kt) := [(27, (.win (.sl 3 (.int .i64)))), (56, (.win (.sl 2 (.int .i64)))), (57, (.win (.sl 100 (.pair (.int .u8) (.pair (.int .u8) (.pair (.int .u8) (.pair (.int .u8) (.pair (.int .i32) .unit)))))))), (58, (.win (.sl 68 (.pair (.int .i64) (.pair (.int .i64) (.pair (.int .i64) (.pair (.int .i64) (.pair (.int .i64) (.pair .bool .unit))))))))), (60, (.win (.sl 105 (.pair (.int .i64) (.pair (.int .i64) .unit))))), (61, (.win (.sl 4 .bool))), (62, (.win (.sl 107 (.pair (.int .i64) (.pair (.int .i64) .unit))))), (22, (.win (.sl 64 (.pair (.pair (.int .i64) (.pair (.int .i64) (.pair (.int .i64) (.pair (.int .i64) .unit)))) (.pair (.int .i64) (.pair (.int .i64) (.pair (.win (.sl 2 (.int .i64))) (.pair (.win (.sl 100 (.pair (.int .u8) (.pair (.int .u8) (.pair (.int .u8) (.pair (.int .u8) (.pair (.int .i32) .unit))))))) (.pair (.win (.sl 68 (.pair (.int .i64) (.pair (.int .i64) (.pair (.int .i64) (.pair (.int .i64) (.pair (.int .i64) (.pair .bool .unit)))))))) (.pair (.int .i64) (.pair (.arr 8 (.int .i64)) (.pair (.win (.sl 105 (.pair (.int .i64) (.pair (.int .i64) .unit)))) (.pair (.win (.sl 4 .bool)) (.pair (.win (.sl 107 (.pair (.int .i64) (.pair (.int .i64) .unit)))) .unit)))))))))))))), (23, (.win (.sl 41 (.pair (.int .i64) (.pair (.int .i64) (.pair .bool (.pair (.int .i64) (.pair (.int .i64) (.pair (.int .i64) .unit))))))))), (24, (.win (.sl 34 (.pair (.int .i64) (.pair (.int .i64) (.pair (.win (.sl 3 (.int .i64))) (.pair (.int .i64) (.pair (.int .i64) .unit))))))))] ++ ks0
abbrev PQ : Type := (Int × (Int × (Bool × (Int × I2))))
abbrev WP : Type := (SV × (Int × (Int × (((List Int) × Nat) × (((List IS) × Nat) × (((List PC) × Nat) × (Int × ((List Int) × (((List I2) × Nat) × (((List Bool) × Nat) × (((List I2) × Nat) × Unit)))))))))))
abbrev WC : Type := (Int × (Int × (((List Int) × Nat) × I2)))
abbrev WI : Type := (((List WP) × Nat) × (((List PQ) × Nat) × (((List WC) × Nat) × Unit)))
abbrev kWP : Kt := (.pair kSV (.pair (.int .i64) (.pair (.int .i64) (.pair (.win (.sl 2 (.int .i64))) (.pair (.win (.sl 100 kIS)) (.pair (.win (.sl 68 kPC)) (.pair (.int .i64) (.pair (.arr 8 (.int .i64)) (.pair (.win (.sl 105 kI2)) (.pair (.win (.sl 4 .bool)) (.pair (.win (.sl 107 kI2)) .unit)))))))))))

/-- bulkhead/bulkheadlaw26.given -/
def s19 : Sig := ⟨[((.pair (.win (.sl 64 kWP)) (.pair (.win (.sl 41 (.pair (.int .i64) (.pair (.int .i64) (.pair .bool (.pair (.int .i64) kI2)))))) (.pair (.win (.sl 34 (.pair (.int .i64) (.pair (.int .i64) (.pair (.win (.sl 3 (.int .i64))) kI2))))) .unit))), .val)], [((.pair (.win (.sl 64 kWP)) (.pair (.win (.sl 41 (.pair (.int .i64) (.pair (.int .i64) (.pair .bool (.pair (.int .i64) kI2)))))) (.pair (.win (.sl 34 (.pair (.int .i64) (.pair (.int .i64) (.pair (.win (.sl 3 (.int .i64))) kI2))))) .unit))), (.own (.pr (.ow (.pr .sh (.pr .sh (.pr .sh (.pr (.ow .sh) (.pr (.ow .sh) (.pr (.ow .sh) (.pr .sh (.pr .sh (.pr (.ow .sh) (.pr (.ow .sh) (.pr (.ow .sh) .sh)))))))))))) (.pr (.ow .sh) (.pr (.ow (.pr .sh (.pr .sh (.pr (.ow .sh) .sh)))) .sh)))))]⟩
 def h19 : Hint := (.seq .leaf
   (.seq .leaf
   (.seq (.seq .leaf
   (.block ⟨[((.ptr 26 (.pair (.win (.sl 64 kWP)) (.pair (.win (.sl 41 (.pair (.int .i64) (.pair (.int .i64) (.pair .bool (.pair (.int .i64) kI2)))))) (.pair (.win (.sl 34 (.pair (.int .i64) (.pair (.int .i64) (.pair (.win (.sl 3 (.int .i64))) kI2))))) .unit)))), (.ow (.pr (.ow (.pr .sh (.pr .sh (.pr .sh (.pr (.ow .sh) (.pr (.ow .sh) (.pr (.ow .sh) (.pr .sh (.pr .sh (.pr (.ow .sh) (.pr (.ow .sh) (.pr (.ow .sh) .sh)))))))))))) (.pr (.ow .sh) (.pr (.ow (.pr .sh (.pr .sh (.pr (.ow .sh) .sh)))) .sh)))), (3, 0)), ((.ptr 26 (.pair (.win (.sl 64 kWP)) (.pair (.win (.sl 41 (.pair (.int .i64) (.pair (.int .i64) (.pair .bool (.pair (.int .i64) kI2)))))) (.pair (.win (.sl 34 (.pair (.int .i64) (.pair (.int .i64) (.pair (.win (.sl 3 (.int .i64))) kI2))))) .unit)))), (.ow .sh), (1, 0)), ((.ptr 26 (.pair (.win (.sl 64 kWP)) (.pair (.win (.sl 41 (.pair (.int .i64) (.pair (.int .i64) (.pair .bool (.pair (.int .i64) kI2)))))) (.pair (.win (.sl 34 (.pair (.int .i64) (.pair (.int .i64) (.pair (.win (.sl 3 (.int .i64))) kI2))))) .unit)))), (.ow (.pr (.ow (.pr .sh (.pr .sh (.pr .sh (.pr (.ow .sh) (.pr (.ow .sh) (.pr (.ow .sh) (.pr .sh (.pr .sh (.pr (.ow .sh) (.pr (.ow .sh) (.pr (.ow .sh) .sh)))))))))))) (.pr (.ow .sh) (.pr (.ow (.pr .sh (.pr .sh (.pr (.ow .sh) .sh)))) .sh)))), (2, 0))], [((3, 0), (.own 0)), ((1, 0), (.own 1)), ((2, 0), (.own 2))]⟩ true
     (.loop ⟨[((.ptr 26 (.pair (.win (.sl 64 kWP)) (.pair (.win (.sl 41 (.pair (.int .i64) (.pair (.int .i64) (.pair .bool (.pair (.int .i64) kI2)))))) (.pair (.win (.sl 34 (.pair (.int .i64) (.pair (.int .i64) (.pair (.win (.sl 3 (.int .i64))) kI2))))) .unit)))), (.ow (.pr (.ow (.pr .sh (.pr .sh (.pr .sh (.pr (.ow .sh) (.pr (.ow .sh) (.pr (.ow .sh) (.pr .sh (.pr .sh (.pr (.ow .sh) (.pr (.ow .sh) (.pr (.ow .sh) .sh)))))))))))) (.pr (.ow .sh) (.pr (.ow (.pr .sh (.pr .sh (.pr (.ow .sh) .sh)))) .sh)))), (3, 0)), ((.ptr 26 (.pair (.win (.sl 64 kWP)) (.pair (.win (.sl 41 (.pair (.int .i64) (.pair (.int .i64) (.pair .bool (.pair (.int .i64) kI2)))))) (.pair (.win (.sl 34 (.pair (.int .i64) (.pair (.int .i64) (.pair (.win (.sl 3 (.int .i64))) kI2))))) .unit)))), (.ow .sh), (1, 0)), ((.ptr 26 (.pair (.win (.sl 64 kWP)) (.pair (.win (.sl 41 (.pair (.int .i64) (.pair (.int .i64) (.pair .bool (.pair (.int .i64) kI2)))))) (.pair (.win (.sl 34 (.pair (.int .i64) (.pair (.int .i64) (.pair (.win (.sl 3 (.int .i64))) kI2))))) .unit)))), (.ow (.pr (.ow (.pr .sh (.pr .sh (.pr .sh (.pr (.ow .sh) (.pr (.ow .sh) (.pr (.ow .sh) (.pr .sh (.pr .sh (.pr (.ow .sh) (.pr (.ow .sh) (.pr (.ow .sh) .sh)))))))))))) (.pr (.ow .sh) (.pr (.ow (.pr .sh (.pr .sh (.pr (.ow .sh) .sh)))) .sh)))), (2, 0))], [((4, 0), (.val (.int .i64))), ((3, 0), (.own 0)), ((1, 0), (.own 1)), ((2, 0), (.own 2))]⟩
       (.seq (.seq .leaf
       (.cond none
         .leaf
         .leaf))
       (.seq (.block ⟨[((.ptr 26 (.pair (.win (.sl 64 kWP)) (.pair (.win (.sl 41 (.pair (.int .i64) (.pair (.int .i64) (.pair .bool (.pair (.int .i64) kI2)))))) (.pair (.win (.sl 34 (.pair (.int .i64) (.pair (.int .i64) (.pair (.win (.sl 3 (.int .i64))) kI2))))) .unit)))), (.ow (.pr (.ow (.pr .sh (.pr .sh (.pr .sh (.pr (.ow .sh) (.pr (.ow .sh) (.pr (.ow .sh) (.pr .sh (.pr .sh (.pr (.ow .sh) (.pr (.ow .sh) (.pr (.ow .sh) .sh)))))))))))) (.pr (.ow .sh) (.pr (.ow (.pr .sh (.pr .sh (.pr (.ow .sh) .sh)))) .sh)))), (3, 0)), ((.ptr 26 (.pair (.win (.sl 64 kWP)) (.pair (.win (.sl 41 (.pair (.int .i64) (.pair (.int .i64) (.pair .bool (.pair (.int .i64) kI2)))))) (.pair (.win (.sl 34 (.pair (.int .i64) (.pair (.int .i64) (.pair (.win (.sl 3 (.int .i64))) kI2))))) .unit)))), (.ow .sh), (1, 0)), ((.ptr 26 (.pair (.win (.sl 64 kWP)) (.pair (.win (.sl 41 (.pair (.int .i64) (.pair (.int .i64) (.pair .bool (.pair (.int .i64) kI2)))))) (.pair (.win (.sl 34 (.pair (.int .i64) (.pair (.int .i64) (.pair (.win (.sl 3 (.int .i64))) kI2))))) .unit)))), (.ow (.pr (.ow (.pr .sh (.pr .sh (.pr .sh (.pr (.ow .sh) (.pr (.ow .sh) (.pr (.ow .sh) (.pr .sh (.pr .sh (.pr (.ow .sh) (.pr (.ow .sh) (.pr (.ow .sh) .sh)))))))))))) (.pr (.ow .sh) (.pr (.ow (.pr .sh (.pr .sh (.pr (.ow .sh) .sh)))) .sh)))), (2, 0))], [((3, 0), (.own 0)), ((1, 0), (.own 1)), ((2, 0), (.own 2)), ((4, 0), (.val (.int .i64)))]⟩ true
         (.seq .leaf
         (.seq .leaf
         (.seq .leaf
         (.seq .leaf
         (.seq .leaf
         (.seq .leaf
         (.seq .leaf
         .leaf))))))))
       .leaf)))))
   (.seq .leaf
   (.seq .leaf
   (.seq (.seq .leaf
   (.block ⟨[((.ptr 26 (.pair (.win (.sl 64 kWP)) (.pair (.win (.sl 41 (.pair (.int .i64) (.pair (.int .i64) (.pair .bool (.pair (.int .i64) kI2)))))) (.pair (.win (.sl 34 (.pair (.int .i64) (.pair (.int .i64) (.pair (.win (.sl 3 (.int .i64))) kI2))))) .unit)))), (.ow (.pr (.ow (.pr .sh (.pr .sh (.pr .sh (.pr (.ow .sh) (.pr (.ow .sh) (.pr (.ow .sh) (.pr .sh (.pr .sh (.pr (.ow .sh) (.pr (.ow .sh) (.pr (.ow .sh) .sh)))))))))))) (.pr (.ow .sh) (.pr (.ow (.pr .sh (.pr .sh (.pr (.ow .sh) .sh)))) .sh)))), (2, 0)), ((.ptr 26 (.pair (.win (.sl 64 kWP)) (.pair (.win (.sl 41 (.pair (.int .i64) (.pair (.int .i64) (.pair .bool (.pair (.int .i64) kI2)))))) (.pair (.win (.sl 34 (.pair (.int .i64) (.pair (.int .i64) (.pair (.win (.sl 3 (.int .i64))) kI2))))) .unit)))), (.ow (.pr (.ow (.pr .sh (.pr .sh (.pr .sh (.pr (.ow .sh) (.pr (.ow .sh) (.pr (.ow .sh) (.pr .sh (.pr .sh (.pr (.ow .sh) (.pr (.ow .sh) (.pr (.ow .sh) .sh)))))))))))) (.pr (.ow .sh) (.pr (.ow (.pr .sh (.pr .sh (.pr (.ow .sh) .sh)))) .sh)))), (3, 0)), ((.ptr 26 (.pair (.win (.sl 64 kWP)) (.pair (.win (.sl 41 (.pair (.int .i64) (.pair (.int .i64) (.pair .bool (.pair (.int .i64) kI2)))))) (.pair (.win (.sl 34 (.pair (.int .i64) (.pair (.int .i64) (.pair (.win (.sl 3 (.int .i64))) kI2))))) .unit)))), (.ow .sh), (1, 0))], [((2, 0), (.own 0)), ((3, 0), (.own 1)), ((1, 0), (.own 2))]⟩ true
     (.loop ⟨[((.ptr 26 (.pair (.win (.sl 64 kWP)) (.pair (.win (.sl 41 (.pair (.int .i64) (.pair (.int .i64) (.pair .bool (.pair (.int .i64) kI2)))))) (.pair (.win (.sl 34 (.pair (.int .i64) (.pair (.int .i64) (.pair (.win (.sl 3 (.int .i64))) kI2))))) .unit)))), (.ow (.pr (.ow (.pr .sh (.pr .sh (.pr .sh (.pr (.ow .sh) (.pr (.ow .sh) (.pr (.ow .sh) (.pr .sh (.pr .sh (.pr (.ow .sh) (.pr (.ow .sh) (.pr (.ow .sh) .sh)))))))))))) (.pr (.ow .sh) (.pr (.ow (.pr .sh (.pr .sh (.pr (.ow .sh) .sh)))) .sh)))), (3, 0)), ((.ptr 26 (.pair (.win (.sl 64 kWP)) (.pair (.win (.sl 41 (.pair (.int .i64) (.pair (.int .i64) (.pair .bool (.pair (.int .i64) kI2)))))) (.pair (.win (.sl 34 (.pair (.int .i64) (.pair (.int .i64) (.pair (.win (.sl 3 (.int .i64))) kI2))))) .unit)))), (.ow .sh), (1, 0)), ((.ptr 26 (.pair (.win (.sl 64 kWP)) (.pair (.win (.sl 41 (.pair (.int .i64) (.pair (.int .i64) (.pair .bool (.pair (.int .i64) kI2)))))) (.pair (.win (.sl 34 (.pair (.int .i64) (.pair (.int .i64) (.pair (.win (.sl 3 (.int .i64))) kI2))))) .unit)))), (.ow (.pr (.ow (.pr .sh (.pr .sh (.pr .sh (.pr (.ow .sh) (.pr (.ow .sh) (.pr (.ow .sh) (.pr .sh (.pr .sh (.pr (.ow .sh) (.pr (.ow .sh) (.pr (.ow .sh) .sh)))))))))))) (.pr (.ow .sh) (.pr (.ow (.pr .sh (.pr .sh (.pr (.ow .sh) .sh)))) .sh)))), (2, 0))], [((6, 0), (.val (.int .i64))), ((3, 0), (.own 0)), ((1, 0), (.own 1)), ((2, 0), (.own 2))]⟩
       (.seq (.seq .leaf
       (.cond none
         .leaf
         .leaf))
       (.seq (.block ⟨[((.ptr 26 (.pair (.win (.sl 64 kWP)) (.pair (.win (.sl 41 (.pair (.int .i64) (.pair (.int .i64) (.pair .bool (.pair (.int .i64) kI2)))))) (.pair (.win (.sl 34 (.pair (.int .i64) (.pair (.int .i64) (.pair (.win (.sl 3 (.int .i64))) kI2))))) .unit)))), (.ow (.pr (.ow (.pr .sh (.pr .sh (.pr .sh (.pr (.ow .sh) (.pr (.ow .sh) (.pr (.ow .sh) (.pr .sh (.pr .sh (.pr (.ow .sh) (.pr (.ow .sh) (.pr (.ow .sh) .sh)))))))))))) (.pr (.ow .sh) (.pr (.ow (.pr .sh (.pr .sh (.pr (.ow .sh) .sh)))) .sh)))), (3, 0)), ((.ptr 26 (.pair (.win (.sl 64 kWP)) (.pair (.win (.sl 41 (.pair (.int .i64) (.pair (.int .i64) (.pair .bool (.pair (.int .i64) kI2)))))) (.pair (.win (.sl 34 (.pair (.int .i64) (.pair (.int .i64) (.pair (.win (.sl 3 (.int .i64))) kI2))))) .unit)))), (.ow .sh), (1, 0)), ((.ptr 26 (.pair (.win (.sl 64 kWP)) (.pair (.win (.sl 41 (.pair (.int .i64) (.pair (.int .i64) (.pair .bool (.pair (.int .i64) kI2)))))) (.pair (.win (.sl 34 (.pair (.int .i64) (.pair (.int .i64) (.pair (.win (.sl 3 (.int .i64))) kI2))))) .unit)))), (.ow (.pr (.ow (.pr .sh (.pr .sh (.pr .sh (.pr (.ow .sh) (.pr (.ow .sh) (.pr (.ow .sh) (.pr .sh (.pr .sh (.pr (.ow .sh) (.pr (.ow .sh) (.pr (.ow .sh) .sh)))))))))))) (.pr (.ow .sh) (.pr (.ow (.pr .sh (.pr .sh (.pr (.ow .sh) .sh)))) .sh)))), (2, 0))], [((3, 0), (.own 0)), ((1, 0), (.own 1)), ((2, 0), (.own 2)), ((6, 0), (.val (.int .i64)))]⟩ true
         (.seq .leaf
         (.seq .leaf
         .leaf)))
       .leaf)))))
   (.seq .leaf
   (.seq .leaf
   .leaf))))))))
def d19_K1  : (((WI × (WI × (WI × Unit))) × Unit) → (Option ((WI × Unit) × Unit))) :=
  (fun (x17 : ((WI × (WI × (WI × Unit))) × Unit)) => (lt (Neg.neg (77 : Int)) fun (x18 : Int) =>
  (lt ((x18, ((0 : Int), ((([] : List Int), (0 : Nat)), ((0 : Int), ((0 : Int), ()))))) :: ([] : List WC)) fun (x19 : (List WC)) =>
  (if ((Bool.true && ((Decidable.decide (x17.1.2.1.2.2.1.2 = (List.length x17.1.2.1.2.2.1.1))) && (Go.Lift.appFits (List.length x17.1.2.1.2.2.1.1) (List.length x19) (56 : Nat)))) = Bool.true) then
  (lt (x17.1.2.1.2.2.1.1 ++ x19) fun (x20 : (List WC)) =>
  (lt (List.length (x17.1.2.1.2.2.1.1 ++ x19)) fun (x21 : Nat) =>
  (lt (((List.length (List.take x17.1.2.2.1.2.2.1.2 x17.1.2.2.1.2.2.1.1)) : Nat) : Int) fun (x22 : Int) =>
  (if (((Decidable.decide ((0 : Int) ≤ x22)) && (Decidable.decide ((Int.toNat x22) ≤ (List.length x20)))) = Bool.true) then
  (Option.some (((x17.1.2.1.1, (x17.1.2.1.2.1, ((x20, (Int.toNat x22)), x17.1.2.1.2.2.2))), ()), ()))
  else (Option.none)))))
  else (Option.none)))))
def d19_K2 (x18 : (((WI × (WI × (WI × Unit))) × (Int × Unit)) → (Option ((WI × Unit) × Unit)))) : (((WI × (WI × (WI × Unit))) × (Int × Unit)) → (Option ((WI × Unit) × Unit))) :=
  (fun (x22 : ((WI × (WI × (WI × Unit))) × (Int × Unit))) => (x18 ((x22.1.1, (x22.1.2.1, (x22.1.2.2.1, ()))), ((Go.IntKind.wrap Go.IntKind.i64 (x22.2.1 + (1 : Int))), ()))))
def d19_L3 (x17 : (((WI × (WI × (WI × Unit))) × Unit) → (Option ((WI × Unit) × Unit)))) : ((((WI × (WI × (WI × Unit))) × (Int × Unit)) → (Option ((WI × Unit) × Unit))) → (((WI × (WI × (WI × Unit))) × (Int × Unit)) → (Option ((WI × Unit) × Unit)))) :=
  (fun (x18 : (((WI × (WI × (WI × Unit))) × (Int × Unit)) → (Option ((WI × Unit) × Unit)))) => (fun (x19 : ((WI × (WI × (WI × Unit))) × (Int × Unit))) => (lt (((List.length (List.take x19.1.2.1.2.2.1.2 x19.1.2.1.2.2.1.1)) : Nat) : Int) fun (x20 : Int) =>
  (lt (Decidable.decide (x19.2.1 < x20)) fun (x21 : Bool) =>
  (if (x21 = Bool.true) then
  (shr (d19_K2 x18) (fun (x22 : (((WI × (WI × (WI × Unit))) × (Int × Unit)) → (Option ((WI × Unit) × Unit)))) => (if (((Decidable.decide ((0 : Int) ≤ x19.2.1)) && (Decidable.decide (x19.2.1 < (((List.length (List.take x19.1.2.1.2.2.1.2 x19.1.2.1.2.2.1.1)) : Nat) : Int)))) = Bool.true) then
  (lt (List.getD (List.take x19.1.2.1.2.2.1.2 x19.1.2.1.2.2.1.1) (Int.toNat x19.2.1) ((0 : Int), ((0 : Int), ((([] : List Int), (0 : Nat)), ((0 : Int), ((0 : Int), ())))))) fun (x23 : WC) =>
  (if ((Go.Lift.appFits (List.length ([] : List Int)) (List.length (List.take x23.2.2.1.2 x23.2.2.1.1)) (8 : Nat)) = Bool.true) then
  (lt (([] : List Int) ++ (List.take x23.2.2.1.2 x23.2.2.1.1)) fun (x24 : (List Int)) =>
  (lt (List.length (([] : List Int) ++ (List.take x23.2.2.1.2 x23.2.2.1.1))) fun (x25 : Nat) =>
  (lt ((Neg.neg (77 : Int)) :: ([] : List Int)) fun (x26 : (List Int)) =>
  (if (((Decidable.decide (x25 = (List.length x24))) && (Go.Lift.appFits (List.length x24) (List.length x26) (8 : Nat))) = Bool.true) then
  (lt (x24 ++ x26) fun (x27 : (List Int)) =>
  (lt (List.length (x24 ++ x26)) fun (x28 : Nat) =>
  (lt (((List.length (List.take x23.2.2.1.2 x23.2.2.1.1)) : Nat) : Int) fun (x29 : Int) =>
  (if (((Decidable.decide ((0 : Int) ≤ x29)) && (Decidable.decide ((Int.toNat x29) ≤ (List.length x27)))) = Bool.true) then
  (lt (Int.toNat x29) fun (x30 : Nat) =>
  (lt ((x23.1, (x23.2.1, ((x27, x30), x23.2.2.2))) :: ([] : List WC)) fun (x31 : (List WC)) =>
  (if ((Bool.true && ((Decidable.decide (x19.1.1.2.2.1.2 = (List.length x19.1.1.2.2.1.1))) && (Go.Lift.appFits (List.length x19.1.1.2.2.1.1) (List.length x31) (56 : Nat)))) = Bool.true) then
  (x22 (((x19.1.1.1, (x19.1.1.2.1, (((x19.1.1.2.2.1.1 ++ x31), (List.length (x19.1.1.2.2.1.1 ++ x31))), x19.1.1.2.2.2))), (x19.1.2.1, (x19.1.2.2.1, ()))), (x19.2.1, ())))
  else (Option.none))))
  else (Option.none)))))
  else (Option.none)))))
  else (Option.none)))
  else (Option.none))))
  else (x17 ((x19.1.2.2.1, (x19.1.1, (x19.1.2.1, ()))), ())))))))
def d19_K4 (x0 : Nat) : (((WI × (WI × (WI × Unit))) × Unit) → (Option ((WI × Unit) × Unit))) :=
  (fun (x2 : ((WI × (WI × (WI × Unit))) × Unit)) => (lt (Neg.neg (77 : Int)) fun (x3 : Int) =>
  (lt (List.replicate (8 : Nat) (0 : Int)) fun (x4 : (List Int)) =>
  (lt ((((0 : Int), ((0 : Int), ((0 : Int), ((0 : Int), ())))), (x3, ((0 : Int), ((([] : List Int), (0 : Nat)), ((([] : List IS), (0 : Nat)), ((([] : List PC), (0 : Nat)), ((0 : Int), (x4, ((([] : List I2), (0 : Nat)), ((([] : List Bool), (0 : Nat)), ((([] : List I2), (0 : Nat)), ()))))))))))) :: ([] : List WP)) fun (x5 : (List WP)) =>
  (if ((Bool.true && ((Decidable.decide (x2.1.1.1.2 = (List.length x2.1.1.1.1))) && (Go.Lift.appFits (List.length x2.1.1.1.1) (List.length x5) (264 : Nat)))) = Bool.true) then
  (lt (x2.1.1.1.1 ++ x5) fun (x6 : (List WP)) =>
  (lt (List.length (x2.1.1.1.1 ++ x5)) fun (x7 : Nat) =>
  (lt (((List.length (List.take x2.1.2.1.1.2 x2.1.2.1.1.1)) : Nat) : Int) fun (x8 : Int) =>
  (if (((Decidable.decide ((0 : Int) ≤ x8)) && (Decidable.decide ((Int.toNat x8) ≤ (List.length x6)))) = Bool.true) then
  (lt (Int.toNat x8) fun (x9 : Nat) =>
  (if ((Go.Lift.appFits (List.length ([] : List PQ)) (List.length (List.take x2.1.2.1.2.1.2 x2.1.2.1.2.1.1)) (48 : Nat)) = Bool.true) then
  (lt (([] : List PQ) ++ (List.take x2.1.2.1.2.1.2 x2.1.2.1.2.1.1)) fun (x10 : (List PQ)) =>
  (lt (List.length (([] : List PQ) ++ (List.take x2.1.2.1.2.1.2 x2.1.2.1.2.1.1))) fun (x11 : Nat) =>
  (lt (Neg.neg (77 : Int)) fun (x12 : Int) =>
  (lt ((x12, ((0 : Int), (Bool.false, ((0 : Int), ((0 : Int), ((0 : Int), ())))))) :: ([] : List PQ)) fun (x13 : (List PQ)) =>
  (if (((Decidable.decide (x11 = (List.length x10))) && (Go.Lift.appFits (List.length x10) (List.length x13) (48 : Nat))) = Bool.true) then
  (lt (x10 ++ x13) fun (x14 : (List PQ)) =>
  (lt (List.length (x10 ++ x13)) fun (x15 : Nat) =>
  (lt (((List.length (List.take x2.1.2.1.2.1.2 x2.1.2.1.2.1.1)) : Nat) : Int) fun (x16 : Int) =>
  (if (((Decidable.decide ((0 : Int) ≤ x16)) && (Decidable.decide ((Int.toNat x16) ≤ (List.length x14)))) = Bool.true) then
  (shr d19_K1 (fun (x17 : (((WI × (WI × (WI × Unit))) × Unit) → (Option ((WI × Unit) × Unit)))) => (loopN (d19_L3 x17) x0 ((((x6, x9), ((x14, (Int.toNat x16)), x2.1.1.2.2)), (x2.1.2.1, (x2.1.2.2.1, ()))), ((0 : Int), ())))))
  else (Option.none)))))
  else (Option.none))))))
  else (Option.none)))
  else (Option.none)))))
  else (Option.none))))))
def d19_K5 (x3 : (((WI × (WI × (WI × Unit))) × (Int × Unit)) → (Option ((WI × Unit) × Unit)))) : (((WI × (WI × (WI × Unit))) × (Int × Unit)) → (Option ((WI × Unit) × Unit))) :=
  (fun (x7 : ((WI × (WI × (WI × Unit))) × (Int × Unit))) => (x3 ((x7.1.1, (x7.1.2.1, (x7.1.2.2.1, ()))), ((Go.IntKind.wrap Go.IntKind.i64 (x7.2.1 + (1 : Int))), ()))))
def d19_L6 (x2 : (((WI × (WI × (WI × Unit))) × Unit) → (Option ((WI × Unit) × Unit)))) : ((((WI × (WI × (WI × Unit))) × (Int × Unit)) → (Option ((WI × Unit) × Unit))) → (((WI × (WI × (WI × Unit))) × (Int × Unit)) → (Option ((WI × Unit) × Unit)))) :=
  (fun (x3 : (((WI × (WI × (WI × Unit))) × (Int × Unit)) → (Option ((WI × Unit) × Unit)))) => (fun (x4 : ((WI × (WI × (WI × Unit))) × (Int × Unit))) => (lt (((List.length (List.take x4.1.2.1.1.2 x4.1.2.1.1.1)) : Nat) : Int) fun (x5 : Int) =>
  (lt (Decidable.decide (x4.2.1 < x5)) fun (x6 : Bool) =>
  (if (x6 = Bool.true) then
  (shr (d19_K5 x3) (fun (x7 : (((WI × (WI × (WI × Unit))) × (Int × Unit)) → (Option ((WI × Unit) × Unit)))) => (if (((Decidable.decide ((0 : Int) ≤ x4.2.1)) && (Decidable.decide (x4.2.1 < (((List.length (List.take x4.1.2.1.1.2 x4.1.2.1.1.1)) : Nat) : Int)))) = Bool.true) then
  (lt (List.getD (List.take x4.1.2.1.1.2 x4.1.2.1.1.1) (Int.toNat x4.2.1) (((0 : Int), ((0 : Int), ((0 : Int), ((0 : Int), ())))), ((0 : Int), ((0 : Int), ((([] : List Int), (0 : Nat)), ((([] : List IS), (0 : Nat)), ((([] : List PC), (0 : Nat)), ((0 : Int), ((List.replicate (8 : Nat) (0 : Int)), ((([] : List I2), (0 : Nat)), ((([] : List Bool), (0 : Nat)), ((([] : List I2), (0 : Nat)), ())))))))))))) fun (x8 : WP) =>
  (lt (List.replicate (8 : Nat) (0 : Int)) fun (x9 : (List Int)) =>
  (if ((Go.Lift.appFits (List.length ([] : List Int)) (List.length (List.take x8.2.2.2.1.2 x8.2.2.2.1.1)) (8 : Nat)) = Bool.true) then
  (lt (([] : List Int) ++ (List.take x8.2.2.2.1.2 x8.2.2.2.1.1)) fun (x10 : (List Int)) =>
  (lt (List.length (([] : List Int) ++ (List.take x8.2.2.2.1.2 x8.2.2.2.1.1))) fun (x11 : Nat) =>
  (lt ((Neg.neg (77 : Int)) :: ([] : List Int)) fun (x12 : (List Int)) =>
  (if (((Decidable.decide (x11 = (List.length x10))) && (Go.Lift.appFits (List.length x10) (List.length x12) (8 : Nat))) = Bool.true) then
  (lt (x10 ++ x12) fun (x13 : (List Int)) =>
  (lt (List.length (x10 ++ x12)) fun (x14 : Nat) =>
  (lt (((List.length (List.take x8.2.2.2.1.2 x8.2.2.2.1.1)) : Nat) : Int) fun (x15 : Int) =>
  (if (((Decidable.decide ((0 : Int) ≤ x15)) && (Decidable.decide ((Int.toNat x15) ≤ (List.length x13)))) = Bool.true) then
  (lt (Int.toNat x15) fun (x16 : Nat) =>
  (if ((Go.Lift.appFits (List.length ([] : List IS)) (List.length (List.take x8.2.2.2.2.1.2 x8.2.2.2.2.1.1)) (8 : Nat)) = Bool.true) then
  (lt (([] : List IS) ++ (List.take x8.2.2.2.2.1.2 x8.2.2.2.2.1.1)) fun (x17 : (List IS)) =>
  (lt (List.length (([] : List IS) ++ (List.take x8.2.2.2.2.1.2 x8.2.2.2.2.1.1))) fun (x18 : Nat) =>
  (lt (((77 : Int), ((0 : Int), ((0 : Int), ((0 : Int), ((0 : Int), ()))))) :: ([] : List IS)) fun (x19 : (List IS)) =>
  (if (((Decidable.decide (x18 = (List.length x17))) && (Go.Lift.appFits (List.length x17) (List.length x19) (8 : Nat))) = Bool.true) then
  (lt (x17 ++ x19) fun (x20 : (List IS)) =>
  (lt (List.length (x17 ++ x19)) fun (x21 : Nat) =>
  (lt (((List.length (List.take x8.2.2.2.2.1.2 x8.2.2.2.2.1.1)) : Nat) : Int) fun (x22 : Int) =>
  (if (((Decidable.decide ((0 : Int) ≤ x22)) && (Decidable.decide ((Int.toNat x22) ≤ (List.length x20)))) = Bool.true) then
  (lt (Int.toNat x22) fun (x23 : Nat) =>
  (if ((Go.Lift.appFits (List.length ([] : List PC)) (List.length (List.take x8.2.2.2.2.2.1.2 x8.2.2.2.2.2.1.1)) (48 : Nat)) = Bool.true) then
  (lt (([] : List PC) ++ (List.take x8.2.2.2.2.2.1.2 x8.2.2.2.2.2.1.1)) fun (x24 : (List PC)) =>
  (lt (List.length (([] : List PC) ++ (List.take x8.2.2.2.2.2.1.2 x8.2.2.2.2.2.1.1))) fun (x25 : Nat) =>
  (lt (Neg.neg (77 : Int)) fun (x26 : Int) =>
  (lt ((x26, ((0 : Int), ((0 : Int), ((0 : Int), ((0 : Int), (Bool.false, ())))))) :: ([] : List PC)) fun (x27 : (List PC)) =>
  (if (((Decidable.decide (x25 = (List.length x24))) && (Go.Lift.appFits (List.length x24) (List.length x27) (48 : Nat))) = Bool.true) then
  (lt (x24 ++ x27) fun (x28 : (List PC)) =>
  (lt (List.length (x24 ++ x27)) fun (x29 : Nat) =>
  (lt (((List.length (List.take x8.2.2.2.2.2.1.2 x8.2.2.2.2.2.1.1)) : Nat) : Int) fun (x30 : Int) =>
  (if (((Decidable.decide ((0 : Int) ≤ x30)) && (Decidable.decide ((Int.toNat x30) ≤ (List.length x28)))) = Bool.true) then
  (lt (Int.toNat x30) fun (x31 : Nat) =>
  (if ((Go.Lift.appFits (List.length ([] : List I2)) (List.length (List.take x8.2.2.2.2.2.2.2.2.1.2 x8.2.2.2.2.2.2.2.2.1.1)) (16 : Nat)) = Bool.true) then
  (lt (([] : List I2) ++ (List.take x8.2.2.2.2.2.2.2.2.1.2 x8.2.2.2.2.2.2.2.2.1.1)) fun (x32 : (List I2)) =>
  (lt (List.length (([] : List I2) ++ (List.take x8.2.2.2.2.2.2.2.2.1.2 x8.2.2.2.2.2.2.2.2.1.1))) fun (x33 : Nat) =>
  (lt (Neg.neg (77 : Int)) fun (x34 : Int) =>
  (lt (((0 : Int), (x34, ())) :: ([] : List I2)) fun (x35 : (List I2)) =>
  (if (((Decidable.decide (x33 = (List.length x32))) && (Go.Lift.appFits (List.length x32) (List.length x35) (16 : Nat))) = Bool.true) then
  (lt (x32 ++ x35) fun (x36 : (List I2)) =>
  (lt (List.length (x32 ++ x35)) fun (x37 : Nat) =>
  (lt (((List.length (List.take x8.2.2.2.2.2.2.2.2.1.2 x8.2.2.2.2.2.2.2.2.1.1)) : Nat) : Int) fun (x38 : Int) =>
  (if (((Decidable.decide ((0 : Int) ≤ x38)) && (Decidable.decide ((Int.toNat x38) ≤ (List.length x36)))) = Bool.true) then
  (lt (Int.toNat x38) fun (x39 : Nat) =>
  (if ((Go.Lift.appFits (List.length ([] : List Bool)) (List.length (List.take x8.2.2.2.2.2.2.2.2.2.1.2 x8.2.2.2.2.2.2.2.2.2.1.1)) (1 : Nat)) = Bool.true) then
  (lt (([] : List Bool) ++ (List.take x8.2.2.2.2.2.2.2.2.2.1.2 x8.2.2.2.2.2.2.2.2.2.1.1)) fun (x40 : (List Bool)) =>
  (lt (List.length (([] : List Bool) ++ (List.take x8.2.2.2.2.2.2.2.2.2.1.2 x8.2.2.2.2.2.2.2.2.2.1.1))) fun (x41 : Nat) =>
  (if (((Decidable.decide (x41 = (List.length x40))) && (Go.Lift.appFits (List.length x40) (List.length (Bool.true :: ([] : List Bool))) (1 : Nat))) = Bool.true) then
  (lt (x40 ++ (Bool.true :: ([] : List Bool))) fun (x42 : (List Bool)) =>
  (lt (List.length (x40 ++ (Bool.true :: ([] : List Bool)))) fun (x43 : Nat) =>
  (lt (((List.length (List.take x8.2.2.2.2.2.2.2.2.2.1.2 x8.2.2.2.2.2.2.2.2.2.1.1)) : Nat) : Int) fun (x44 : Int) =>
  (if (((Decidable.decide ((0 : Int) ≤ x44)) && (Decidable.decide ((Int.toNat x44) ≤ (List.length x42)))) = Bool.true) then
  (lt (Int.toNat x44) fun (x45 : Nat) =>
  (if ((Go.Lift.appFits (List.length ([] : List I2)) (List.length (List.take x8.2.2.2.2.2.2.2.2.2.2.1.2 x8.2.2.2.2.2.2.2.2.2.2.1.1)) (16 : Nat)) = Bool.true) then
  (lt (([] : List I2) ++ (List.take x8.2.2.2.2.2.2.2.2.2.2.1.2 x8.2.2.2.2.2.2.2.2.2.2.1.1)) fun (x46 : (List I2)) =>
  (lt (List.length (([] : List I2) ++ (List.take x8.2.2.2.2.2.2.2.2.2.2.1.2 x8.2.2.2.2.2.2.2.2.2.2.1.1))) fun (x47 : Nat) =>
  (lt (Neg.neg (77 : Int)) fun (x48 : Int) =>
  (lt ((x48, ((0 : Int), ())) :: ([] : List I2)) fun (x49 : (List I2)) =>
  (if (((Decidable.decide (x47 = (List.length x46))) && (Go.Lift.appFits (List.length x46) (List.length x49) (16 : Nat))) = Bool.true) then
  (lt (x46 ++ x49) fun (x50 : (List I2)) =>
  (lt (List.length (x46 ++ x49)) fun (x51 : Nat) =>
  (lt (((List.length (List.take x8.2.2.2.2.2.2.2.2.2.2.1.2 x8.2.2.2.2.2.2.2.2.2.2.1.1)) : Nat) : Int) fun (x52 : Int) =>
  (if (((Decidable.decide ((0 : Int) ≤ x52)) && (Decidable.decide ((Int.toNat x52) ≤ (List.length x50)))) = Bool.true) then
  (lt (Int.toNat x52) fun (x53 : Nat) =>
  (lt ((x8.1, (x8.2.1, (x8.2.2.1, ((x13, x16), ((x20, x23), ((x28, x31), (x8.2.2.2.2.2.2.1, (x8.2.2.2.2.2.2.2.1, ((x36, x39), ((x42, x45), ((x50, x53), x8.2.2.2.2.2.2.2.2.2.2.2))))))))))) :: ([] : List WP)) fun (x54 : (List WP)) =>
  (if ((Bool.true && ((Decidable.decide (x4.1.1.1.2 = (List.length x4.1.1.1.1))) && (Go.Lift.appFits (List.length x4.1.1.1.1) (List.length x54) (264 : Nat)))) = Bool.true) then
  (x7 (((((x4.1.1.1.1 ++ x54), (List.length (x4.1.1.1.1 ++ x54))), x4.1.1.2), (x4.1.2.1, (x4.1.2.2.1, ()))), (x4.2.1, ())))
  else (Option.none))))
  else (Option.none)))))
  else (Option.none))))))
  else (Option.none)))
  else (Option.none)))))
  else (Option.none))))
  else (Option.none)))
  else (Option.none)))))
  else (Option.none))))))
  else (Option.none)))
  else (Option.none)))))
  else (Option.none))))))
  else (Option.none)))
  else (Option.none)))))
  else (Option.none)))))
  else (Option.none)))
  else (Option.none)))))
  else (Option.none)))))
  else (Option.none))))
  else (Option.none))))
  else (x2 ((x4.1.1, (x4.1.2.1, (x4.1.2.2.1, ()))), ())))))))
def d19 : (Nat → ((WI × Unit) → (Option ((WI × Unit) × Unit)))) :=
  (fun (x0 : Nat) => (fun (x1 : (WI × Unit)) => (shr (d19_K4 x0) (fun (x2 : (((WI × (WI × (WI × Unit))) × Unit) → (Option ((WI × Unit) × Unit)))) => (loopN (d19_L6 x2) x0 ((((([] : List WP), (0 : Nat)), ((([] : List PQ), (0 : Nat)), ((([] : List WC), (0 : Nat)), ()))), (x1.1, (((([] : List WP), (0 : Nat)), ((([] : List PQ), (0 : Nat)), ((([] : List WC), (0 : Nat)), ()))), ()))), ((0 : Int), ())))))))
theorem k19 : c_fn Tryz.prog ⟨[], ksW⟩ Tryz.f19 s19 h19 = some d19 := by kernel_rfl
/-- bulkhead/bulkheadref26.Channel -/
def s107 : Sig := ⟨[((.pair (.sl 64 kPT) (.pair (.sl 41 (.pair (.int .i64) (.pair (.int .i64) (.pair .bool (.pair (.int .i64) kI2))))) (.pair (.sl 34 kCH) .unit))), .val), ((.int .i64), .val), ((.int .i64), .val)], [(kCH, .val), ((.int .i64), .val)]⟩
 def h107 : Hint := (.seq .leaf
   (.seq .leaf
   (.seq (.seq .leaf
   (.cond none
     (.seq .leaf
     .leaf)
     .leaf))
   (.seq (.seq .leaf
   (.cond none
     (.seq .leaf
     .leaf)
     .leaf))
   (.seq .leaf
   (.seq (.seq .leaf
   (.cond none
     (.seq .leaf
     .leaf)
     .leaf))
   (.seq .leaf
   .leaf)))))))
def d107 : (Nat → ((((List PT) × ((List PQ) × ((List CH) × Unit))) × I2) → (Option ((CH × (Int × Unit)) × Unit)))) :=
  (fun (x0 : Nat) => (fun (x1 : (((List PT) × ((List PQ) × ((List CH) × Unit))) × I2)) => (Option.bind (d14 x0 (x1.1, ())) fun (x2 : (I2 × Unit)) =>
  (lt (x2.1.1 != (0 : Int)) fun (x3 : Bool) =>
  (if (x3 = Bool.true) then
  (Option.some ((((0 : Int), ((0 : Int), (([] : List Int), ((0 : Int), ((0 : Int), ()))))), (x2.1.1, ())), ()))
  else (lt (Decidable.decide (x1.2.1 < (1 : Int))) fun (x4 : Bool) =>
  (lt (((List.length x1.1.2.2.1) : Nat) : Int) fun (x5 : Int) =>
  (lt (Decidable.decide (x1.2.1 > x5)) fun (x6 : Bool) =>
  (lt (if (x4 = Bool.true) then
  Bool.true
  else x6) fun (x7 : Bool) =>
  (if (x7 = Bool.true) then
  (Option.some ((((0 : Int), ((0 : Int), (([] : List Int), ((0 : Int), ((0 : Int), ()))))), ((2 : Int), ())), ()))
  else (lt (Go.IntKind.wrap Go.IntKind.i64 (x1.2.1 - (1 : Int))) fun (x8 : Int) =>
  (if (((Decidable.decide ((0 : Int) ≤ x8)) && (Decidable.decide (x8 < (((List.length x1.1.2.2.1) : Nat) : Int)))) = Bool.true) then
  (lt (List.getD x1.1.2.2.1 (Int.toNat x8) ((0 : Int), ((0 : Int), (([] : List Int), ((0 : Int), ((0 : Int), ())))))) fun (x9 : CH) =>
  (lt (x9.1 != x1.2.2.1) fun (x10 : Bool) =>
  (lt (x1.2.2.1 == (1 : Int)) fun (x11 : Bool) =>
  (lt (x9.2.1 == (0 : Int)) fun (x12 : Bool) =>
  (lt (if (x11 = Bool.true) then
  x12
  else Bool.false) fun (x13 : Bool) =>
  (lt (if (x10 = Bool.true) then
  Bool.true
  else x13) fun (x14 : Bool) =>
  (if (x14 = Bool.true) then
  (Option.some ((((0 : Int), ((0 : Int), (([] : List Int), ((0 : Int), ((0 : Int), ()))))), ((2 : Int), ())), ()))
  else (Option.some ((x9, ((0 : Int), ())), ())))))))))
  else (Option.none)))))))))))))
theorem k107 : c_fn Tryz.prog ⟨[(14, ⟨s14, d14⟩)], ks0⟩ Tryz.f107 s107 h107 = some d107 := by kernel_rfl
/-- bulkhead/bulkheadref26.Stay -/
def s57 : Sig := ⟨[((.pair (.sl 64 kPT) (.pair (.sl 41 (.pair (.int .i64) (.pair (.int .i64) (.pair .bool (.pair (.int .i64) kI2))))) (.pair (.sl 34 kCH) .unit))), .val), ((.int .i64), .val)], [((.int .i64), .val), ((.int .i64), .val)]⟩
 def h57 : Hint := (.seq .leaf
   (.seq .leaf
   (.seq (.seq .leaf
   (.cond none
     (.seq .leaf
     .leaf)
     .leaf))
   (.seq .leaf
   .leaf))))
def d57 : (Nat → ((((List PT) × ((List PQ) × ((List CH) × Unit))) × (Int × Unit)) → (Option (I2 × Unit)))) :=
  (fun (x0 : Nat) => (fun (x1 : (((List PT) × ((List PQ) × ((List CH) × Unit))) × (Int × Unit))) => (Option.bind (d107 x0 (x1.1, (x1.2.1, ((1 : Int), ())))) fun (x2 : ((CH × (Int × Unit)) × Unit)) =>
  (lt (x2.1.2.1 != (0 : Int)) fun (x3 : Bool) =>
  (if (x3 = Bool.true) then
  (Option.some (((0 : Int), (x2.1.2.1, ())), ()))
  else (lt (Go.IntKind.wrap Go.IntKind.i64 (x2.1.1.2.1 - (1 : Int))) fun (x4 : Int) =>
  (if (((Decidable.decide ((0 : Int) ≤ x4)) && (Decidable.decide (x4 < (((List.length x1.1.2.1) : Nat) : Int)))) = Bool.true) then
  (Option.some (((Go.IntKind.wrap Go.IntKind.i64 ((List.getD x1.1.2.1 (Int.toNat x4) ((0 : Int), ((0 : Int), (Bool.false, ((0 : Int), ((0 : Int), ((0 : Int), ()))))))).2.2.2.2.1 * x2.1.1.2.2.2.2.1)), ((0 : Int), ())), ()))
  else (Option.none))))))))
theorem k57 : c_fn Tryz.prog ⟨[(107, ⟨s107, d107⟩)], ks0⟩ Tryz.f57 s57 h57 = some d57 := by kernel_rfl
/-- bulkhead/bulkheadref01.ahead -/
def s138 : Sig := ⟨[((.int .i64), .val), ((.int .i64), .val), ((.int .i64), .val)], [((.int .i64), .val)]⟩
 def h138 : Hint := (.seq .leaf
   (.seq (.seq .leaf
   (.cond none
     (.seq .leaf
     .leaf)
     .leaf))
   (.seq .leaf
   .leaf)))
def d138 : (Nat → ((Int × I2) → (Option ((Int × Unit) × Unit)))) :=
  (fun (x0 : Nat) => (fun (x1 : (Int × I2)) => (lt (Decidable.decide (x1.2.2.1 ≤ x1.1)) fun (x2 : Bool) =>
  (if (x2 = Bool.true) then
  (Option.some (((0 : Int), ()), ()))
  else (lt (Go.IntKind.wrap Go.IntKind.i64 (x1.2.2.1 - x1.1)) fun (x3 : Int) =>
  (lt (Go.IntKind.wrap Go.IntKind.i64 (x3 - (1 : Int))) fun (x4 : Int) =>
  (if ((Bool.not (x1.2.1 == (0 : Int))) = Bool.true) then
  (Option.some (((Go.IntKind.wrap Go.IntKind.i64 ((Go.IntKind.wrap Go.IntKind.i64 (Int.tdiv x4 x1.2.1)) + (1 : Int))), ()), ()))
  else (Option.none))))))))
theorem k138 : c_fn Tryz.prog ⟨[], ks0⟩ Tryz.f138 s138 h138 = some d138 := by kernel_rfl
/-- bulkhead/bulkheadref01.Count -/
def s108 : Sig := ⟨[((.int .i64), .val), ((.int .i64), .val), ((.int .i64), .val), ((.int .i64), .val)], [((.int .i64), .val), (.bool, .val)]⟩
 def h108 : Hint := (.seq .leaf
   (.seq (.seq .leaf
   (.cond none
     (.seq .leaf
     .leaf)
     .leaf))
   (.seq (.seq .leaf
   (.cond none
     (.seq .leaf
     .leaf)
     .leaf))
   (.seq .leaf
   .leaf))))
def d108 : (Nat → (SV → (Option ((Int × (Bool × Unit)) × Unit)))) :=
  (fun (x0 : Nat) => (fun (x1 : SV) => (lt (Decidable.decide (x1.2.1 < (1 : Int))) fun (x2 : Bool) =>
  (lt (Decidable.decide (x1.1 < (0 : Int))) fun (x3 : Bool) =>
  (lt (if (x2 = Bool.true) then
  Bool.true
  else x3) fun (x4 : Bool) =>
  (if (x4 = Bool.true) then
  (Option.some (((0 : Int), (Bool.false, ())), ()))
  else (lt (Decidable.decide (x1.2.2.2.1 ≤ x1.2.2.1)) fun (x5 : Bool) =>
  (if (x5 = Bool.true) then
  (Option.some (((0 : Int), (Bool.true, ())), ()))
  else (Option.bind (d138 x0 (x1.1, (x1.2.1, (x1.2.2.2.1, ())))) fun (x6 : ((Int × Unit) × Unit)) =>
  (Option.bind (d138 x0 (x1.1, (x1.2.1, (x1.2.2.1, ())))) fun (x7 : ((Int × Unit) × Unit)) =>
  (Option.some (((Go.IntKind.wrap Go.IntKind.i64 (x6.1.1 - x7.1.1)), (Bool.true, ())), ()))))))))))))
theorem k108 : c_fn Tryz.prog ⟨[(138, ⟨s138, d138⟩)], ks0⟩ Tryz.f108 s108 h108 = some d108 := by kernel_rfl
/-- bulkhead/bulkheadref26.Rate -/
def s58 : Sig := ⟨[((.pair (.sl 64 kPT) (.pair (.sl 41 (.pair (.int .i64) (.pair (.int .i64) (.pair .bool (.pair (.int .i64) kI2))))) (.pair (.sl 34 kCH) .unit))), .val), ((.int .i64), .val), ((.int .i64), .val)], [((.int .i64), .val), ((.int .i64), .val)]⟩
 def h58 : Hint := (.seq .leaf
   (.seq .leaf
   (.seq (.seq .leaf
   (.cond none
     (.seq .leaf
     .leaf)
     .leaf))
   (.seq (.seq .leaf
   (.cond none
     (.seq .leaf
     .leaf)
     .leaf))
   (.seq .leaf
   (.seq .leaf
   .leaf))))))
def d58 : (Nat → ((((List PT) × ((List PQ) × ((List CH) × Unit))) × I2) → (Option (I2 × Unit)))) :=
  (fun (x0 : Nat) => (fun (x1 : (((List PT) × ((List PQ) × ((List CH) × Unit))) × I2)) => (Option.bind (d107 x0 (x1.1, (x1.2.1, ((1 : Int), ())))) fun (x2 : ((CH × (Int × Unit)) × Unit)) =>
  (lt (x2.1.2.1 != (0 : Int)) fun (x3 : Bool) =>
  (if (x3 = Bool.true) then
  (Option.some (((0 : Int), (x2.1.2.1, ())), ()))
  else (lt (Decidable.decide (x1.2.2.1 < (0 : Int))) fun (x4 : Bool) =>
  (lt (Decidable.decide (x1.2.2.1 > (1099511627776 : Int))) fun (x5 : Bool) =>
  (lt (if (x4 = Bool.true) then
  Bool.true
  else x5) fun (x6 : Bool) =>
  (if (x6 = Bool.true) then
  (Option.some (((0 : Int), ((2 : Int), ())), ()))
  else (Option.bind (d108 x0 (x2.1.1.2.2.2.1, (x2.1.1.2.2.2.2.1, (x2.1.1.2.2.2.1, ((Go.IntKind.wrap Go.IntKind.i64 (x2.1.1.2.2.2.1 + x1.2.2.1)), ()))))) fun (x7 : ((Int × (Bool × Unit)) × Unit)) =>
  (Option.some ((x7.1.1, ((0 : Int), ())), ()))))))))))))
theorem k58 : c_fn Tryz.prog ⟨[(107, ⟨s107, d107⟩), (108, ⟨s108, d108⟩)], ks0⟩ Tryz.f58 s58 h58 = some d58 := by kernel_rfl
/-- bulkhead/bulkheadref26.Safe -/
def s59 : Sig := ⟨[((.pair (.sl 64 kPT) (.pair (.sl 41 (.pair (.int .i64) (.pair (.int .i64) (.pair .bool (.pair (.int .i64) kI2))))) (.pair (.sl 34 kCH) .unit))), .val), ((.int .i64), .val), ((.int .i64), .val)], [(.bool, .val), ((.int .i64), .val)]⟩
 def h59 : Hint := (.seq .leaf
   (.seq .leaf
   (.seq (.seq .leaf
   (.cond none
     (.seq .leaf
     .leaf)
     .leaf))
   (.seq .leaf
   (.seq (.seq .leaf
   (.block ⟨[], []⟩ true
     (.loop ⟨[((.ptr 26 (.pair (.sl 64 kPT) (.pair (.sl 41 (.pair (.int .i64) (.pair (.int .i64) (.pair .bool (.pair (.int .i64) kI2))))) (.pair (.sl 34 kCH) .unit)))), (.ow .sh), (3, 0))], [((11, 0), (.val (.int .i64))), ((10, 0), (.val (.sl 3 (.int .i64)))), ((3, 0), (.own 0)), ((8, 0), (.val (.int .i64)))]⟩
       (.seq (.seq .leaf
       (.cond none
         .leaf
         .leaf))
       (.seq (.block ⟨[((.ptr 26 (.pair (.sl 64 kPT) (.pair (.sl 41 (.pair (.int .i64) (.pair (.int .i64) (.pair .bool (.pair (.int .i64) kI2))))) (.pair (.sl 34 kCH) .unit)))), (.ow .sh), (3, 0))], [((10, 0), (.val (.sl 3 (.int .i64)))), ((3, 0), (.own 0)), ((8, 0), (.val (.int .i64))), ((11, 0), (.val (.int .i64)))]⟩ true
         (.seq .leaf
         (.cond none
           (.seq .leaf
           .leaf)
           .leaf)))
       .leaf)))))
   (.seq .leaf
   .leaf))))))
def d59_K1  : ((Unit × Unit) → (Option ((Bool × (Int × Unit)) × Unit))) :=
  (fun (x5 : (Unit × Unit)) => (Option.some ((Bool.true, ((0 : Int), ())), ())))
def d59_K2 (x6 : (((((List PT) × ((List PQ) × ((List CH) × Unit))) × Unit) × (Int × ((List Int) × (Int × Unit)))) → (Option ((Bool × (Int × Unit)) × Unit)))) : (((((List PT) × ((List PQ) × ((List CH) × Unit))) × Unit) × ((List Int) × I2)) → (Option ((Bool × (Int × Unit)) × Unit))) :=
  (fun (x10 : ((((List PT) × ((List PQ) × ((List CH) × Unit))) × Unit) × ((List Int) × I2))) => (x6 ((x10.1.1, ()), ((Go.IntKind.wrap Go.IntKind.i64 (x10.2.2.2.1 + (1 : Int))), (x10.2.1, (x10.2.2.1, ()))))))
def d59_L3 (x5 : ((Unit × Unit) → (Option ((Bool × (Int × Unit)) × Unit)))) : ((((((List PT) × ((List PQ) × ((List CH) × Unit))) × Unit) × (Int × ((List Int) × (Int × Unit)))) → (Option ((Bool × (Int × Unit)) × Unit))) → (((((List PT) × ((List PQ) × ((List CH) × Unit))) × Unit) × (Int × ((List Int) × (Int × Unit)))) → (Option ((Bool × (Int × Unit)) × Unit)))) :=
  (fun (x6 : (((((List PT) × ((List PQ) × ((List CH) × Unit))) × Unit) × (Int × ((List Int) × (Int × Unit)))) → (Option ((Bool × (Int × Unit)) × Unit)))) => (fun (x7 : ((((List PT) × ((List PQ) × ((List CH) × Unit))) × Unit) × (Int × ((List Int) × (Int × Unit))))) => (lt (((List.length x7.2.2.1) : Nat) : Int) fun (x8 : Int) =>
  (lt (Decidable.decide (x7.2.1 < x8)) fun (x9 : Bool) =>
  (if (x9 = Bool.true) then
  (shr (d59_K2 x6) (fun (x10 : (((((List PT) × ((List PQ) × ((List CH) × Unit))) × Unit) × ((List Int) × I2)) → (Option ((Bool × (Int × Unit)) × Unit)))) => (if (((Decidable.decide ((0 : Int) ≤ x7.2.1)) && (Decidable.decide (x7.2.1 < (((List.length x7.2.2.1) : Nat) : Int)))) = Bool.true) then
  (lt (List.getD x7.2.2.1 (Int.toNat x7.2.1) (0 : Int)) fun (x11 : Int) =>
  (lt (Go.IntKind.wrap Go.IntKind.i64 (x11 - (1 : Int))) fun (x12 : Int) =>
  (if (((Decidable.decide ((0 : Int) ≤ x12)) && (Decidable.decide (x12 < (((List.length x7.1.1.2.1) : Nat) : Int)))) = Bool.true) then
  (lt (List.getD x7.1.1.2.1 (Int.toNat x12) ((0 : Int), ((0 : Int), (Bool.false, ((0 : Int), ((0 : Int), ((0 : Int), ()))))))).2.2.2.2.1 fun (x13 : Int) =>
  (lt (Decidable.decide (x7.2.2.2.1 > x13)) fun (x14 : Bool) =>
  (if (x14 = Bool.true) then
  (Option.some ((Bool.false, ((0 : Int), ())), ()))
  else (x10 ((x7.1.1, ()), (x7.2.2.1, (x7.2.2.2.1, (x7.2.1, ()))))))))
  else (Option.none))))
  else (Option.none))))
  else (x5 ((), ())))))))
def d59 : (Nat → ((((List PT) × ((List PQ) × ((List CH) × Unit))) × I2) → (Option ((Bool × (Int × Unit)) × Unit)))) :=
  (fun (x0 : Nat) => (fun (x1 : (((List PT) × ((List PQ) × ((List CH) × Unit))) × I2)) => (Option.bind (d58 x0 (x1.1, (x1.2.1, (x1.2.2.1, ())))) fun (x2 : (I2 × Unit)) =>
  (lt (x2.1.2.1 != (0 : Int)) fun (x3 : Bool) =>
  (if (x3 = Bool.true) then
  (Option.some ((Bool.false, (x2.1.2.1, ())), ()))
  else (lt (Go.IntKind.wrap Go.IntKind.i64 (x1.2.1 - (1 : Int))) fun (x4 : Int) =>
  (if (((Decidable.decide ((0 : Int) ≤ x4)) && (Decidable.decide (x4 < (((List.length x1.1.2.2.1) : Nat) : Int)))) = Bool.true) then
  (shr d59_K1 (fun (x5 : ((Unit × Unit) → (Option ((Bool × (Int × Unit)) × Unit)))) => (loopN (d59_L3 x5) x0 ((x1.1, ()), ((0 : Int), ((List.getD x1.1.2.2.1 (Int.toNat x4) ((0 : Int), ((0 : Int), (([] : List Int), ((0 : Int), ((0 : Int), ())))))).2.2.1, (x2.1.1, ())))))))
  else (Option.none))))))))
theorem k59 : c_fn Tryz.prog ⟨[(58, ⟨s58, d58⟩)], ks0⟩ Tryz.f59 s59 h59 = some d59 := by kernel_rfl
/-- bulkhead/bulkheadref26.Oldest -/
def s60 : Sig := ⟨[((.pair (.sl 64 kPT) (.pair (.sl 41 (.pair (.int .i64) (.pair (.int .i64) (.pair .bool (.pair (.int .i64) kI2))))) (.pair (.sl 34 kCH) .unit))), .val), ((.int .i64), .val), ((.int .i64), .val)], [((.int .i64), .val), ((.int .i64), .val)]⟩
 def h60 : Hint := (.seq .leaf
   (.seq .leaf
   (.seq (.seq .leaf
   (.cond none
     (.seq .leaf
     .leaf)
     .leaf))
   (.seq (.seq .leaf
   (.cond none
     (.seq .leaf
     .leaf)
     .leaf))
   (.seq .leaf
   .leaf)))))
def d60 : (Nat → ((((List PT) × ((List PQ) × ((List CH) × Unit))) × I2) → (Option (I2 × Unit)))) :=
  (fun (x0 : Nat) => (fun (x1 : (((List PT) × ((List PQ) × ((List CH) × Unit))) × I2)) => (Option.bind (d107 x0 (x1.1, (x1.2.1, ((0 : Int), ())))) fun (x2 : ((CH × (Int × Unit)) × Unit)) =>
  (lt (x2.1.2.1 != (0 : Int)) fun (x3 : Bool) =>
  (if (x3 = Bool.true) then
  (Option.some (((0 : Int), (x2.1.2.1, ())), ()))
  else (lt (Decidable.decide (x1.2.2.1 < (1 : Int))) fun (x4 : Bool) =>
  (lt (Decidable.decide (x1.2.2.1 > (1099511627776 : Int))) fun (x5 : Bool) =>
  (lt (if (x4 = Bool.true) then
  Bool.true
  else x5) fun (x6 : Bool) =>
  (if (x6 = Bool.true) then
  (Option.some (((0 : Int), ((2 : Int), ())), ()))
  else (Option.some (((Go.IntKind.wrap Go.IntKind.i64 (x1.2.2.1 - (1 : Int))), ((0 : Int), ())), ())))))))))))
theorem k60 : c_fn Tryz.prog ⟨[(107, ⟨s107, d107⟩)], ks0⟩ Tryz.f60 s60 h60 = some d60 := by kernel_rfl
/-- bulkhead/bulkheadlaw26.exact -/
def s20 : Sig := ⟨[((.pair (.sl 64 kPT) (.pair (.sl 41 (.pair (.int .i64) (.pair (.int .i64) (.pair .bool (.pair (.int .i64) kI2))))) (.pair (.sl 34 kCH) .unit))), .val), ((.pair (.sl 64 kPT) (.pair (.sl 41 (.pair (.int .i64) (.pair (.int .i64) (.pair .bool (.pair (.int .i64) kI2))))) (.pair (.sl 34 kCH) .unit))), .val), ((.int .i64), .val), ((.int .i64), .val)], [(.bool, .val)]⟩
 def h20 : Hint := (.seq .leaf
   (.seq .leaf
   (.seq .leaf
   (.seq .leaf
   (.seq .leaf
   (.seq (.seq .leaf
   (.cond none
     (.seq .leaf
     .leaf)
     .leaf))
   (.seq .leaf
   (.seq .leaf
   (.seq .leaf
   (.seq .leaf
   (.seq .leaf
   .leaf)))))))))))
def d20 : (Nat → ((((List PT) × ((List PQ) × ((List CH) × Unit))) × (((List PT) × ((List PQ) × ((List CH) × Unit))) × I2)) → (Option ((Bool × Unit) × Unit)))) :=
  (fun (x0 : Nat) => (fun (x1 : (((List PT) × ((List PQ) × ((List CH) × Unit))) × (((List PT) × ((List PQ) × ((List CH) × Unit))) × I2))) => (Option.bind (d52 x0 (x1.1, (x1.2.2.1, ()))) fun (x2 : (I2 × Unit)) =>
  (Option.bind (d57 x0 (x1.2.1, (x1.2.2.1, ()))) fun (x3 : (I2 × Unit)) =>
  (Option.bind (d16 x0 (x1.1, (x1.2.2.1, (x1.2.2.2.1, ())))) fun (x4 : (I2 × Unit)) =>
  (Option.bind (d58 x0 (x1.2.1, (x1.2.2.1, (x1.2.2.2.1, ())))) fun (x5 : (I2 × Unit)) =>
  (lt (x2.1.1 != x3.1.1) fun (x6 : Bool) =>
  (lt (x2.1.2.1 != x3.1.2.1) fun (x7 : Bool) =>
  (lt (if (x6 = Bool.true) then
  Bool.true
  else x7) fun (x8 : Bool) =>
  (lt (x4.1.1 != x5.1.1) fun (x9 : Bool) =>
  (lt (if (x8 = Bool.true) then
  Bool.true
  else x9) fun (x10 : Bool) =>
  (lt (x4.1.2.1 != x5.1.2.1) fun (x11 : Bool) =>
  (lt (if (x10 = Bool.true) then
  Bool.true
  else x11) fun (x12 : Bool) =>
  (if (x12 = Bool.true) then
  (Option.some ((Bool.false, ()), ()))
  else (Option.bind (d17 x0 (x1.1, (x1.2.2.1, (x1.2.2.2.1, ())))) fun (x13 : ((Bool × (Int × Unit)) × Unit)) =>
  (Option.bind (d59 x0 (x1.2.1, (x1.2.2.1, (x1.2.2.2.1, ())))) fun (x14 : ((Bool × (Int × Unit)) × Unit)) =>
  (Option.bind (d13 x0 (x1.1, (x1.2.2.1, (x1.2.2.2.1, ())))) fun (x15 : (I2 × Unit)) =>
  (Option.bind (d60 x0 (x1.2.1, (x1.2.2.1, (x1.2.2.2.1, ())))) fun (x16 : (I2 × Unit)) =>
  (lt (x13.1.1 == x14.1.1) fun (x17 : Bool) =>
  (lt (x13.1.2.1 == x14.1.2.1) fun (x18 : Bool) =>
  (lt (if (x17 = Bool.true) then
  x18
  else Bool.false) fun (x19 : Bool) =>
  (lt (x15.1.1 == x16.1.1) fun (x20 : Bool) =>
  (lt (if (x19 = Bool.true) then
  x20
  else Bool.false) fun (x21 : Bool) =>
  (lt (x15.1.2.1 == x16.1.2.1) fun (x22 : Bool) =>
  (Option.some (((if (x21 = Bool.true) then
  x22
  else Bool.false), ()), ()))))))))))))))))))))))))))
theorem k20 : c_fn Tryz.prog ⟨[(52, ⟨s52, d52⟩), (57, ⟨s57, d57⟩), (16, ⟨s16, d16⟩), (58, ⟨s58, d58⟩), (17, ⟨s17, d17⟩), (59, ⟨s59, d59⟩), (13, ⟨s13, d13⟩), (60, ⟨s60, d60⟩)], ks0⟩ Tryz.f20 s20 h20 = some d20 := by kernel_rfl
/-- bulkhead/bulkheadlaw26.alike -/
def s61 : Sig := ⟨[(kWP, .val), (kWP, .val)], [(.bool, .val)]⟩
 def h61 : Hint := (.seq .leaf
   (.seq .leaf
   (.seq .leaf
   (.seq .leaf
   (.seq .leaf
   (.seq (.seq .leaf
   (.block ⟨[((.ptr 64 kWP), (.ow .sh), (3, 0)), ((.ptr 64 kWP), (.ow .sh), (2, 0))], [((3, 0), (.own 0)), ((2, 0), (.own 1)), ((5, 0), (.val .bool))]⟩ true
     (.loop ⟨[((.ptr 64 kWP), (.ow .sh), (3, 0)), ((.ptr 64 kWP), (.ow .sh), (2, 0))], [((6, 0), (.val (.int .i64))), ((3, 0), (.own 0)), ((2, 0), (.own 1)), ((5, 0), (.val .bool))]⟩
       (.seq (.seq .leaf
       (.cond none
         .leaf
         .leaf))
       (.seq (.block ⟨[((.ptr 64 kWP), (.ow .sh), (3, 0)), ((.ptr 64 kWP), (.ow .sh), (2, 0))], [((3, 0), (.own 0)), ((2, 0), (.own 1)), ((5, 0), (.val .bool)), ((6, 0), (.val (.int .i64)))]⟩ true
         .leaf)
       .leaf)))))
   (.seq (.seq .leaf
   (.block ⟨[((.ptr 64 kWP), (.ow .sh), (3, 0)), ((.ptr 64 kWP), (.ow .sh), (2, 0))], [((3, 0), (.own 0)), ((2, 0), (.own 1)), ((5, 0), (.val .bool))]⟩ true
     (.loop ⟨[((.ptr 64 kWP), (.ow .sh), (3, 0)), ((.ptr 64 kWP), (.ow .sh), (2, 0))], [((7, 0), (.val (.int .i64))), ((3, 0), (.own 0)), ((2, 0), (.own 1)), ((5, 0), (.val .bool))]⟩
       (.seq (.seq .leaf
       (.cond none
         .leaf
         .leaf))
       (.seq (.block ⟨[((.ptr 64 kWP), (.ow .sh), (3, 0)), ((.ptr 64 kWP), (.ow .sh), (2, 0))], [((3, 0), (.own 0)), ((2, 0), (.own 1)), ((5, 0), (.val .bool)), ((7, 0), (.val (.int .i64)))]⟩ true
         .leaf)
       .leaf)))))
   (.seq (.seq .leaf
   (.block ⟨[((.ptr 64 kWP), (.ow .sh), (3, 0)), ((.ptr 64 kWP), (.ow .sh), (2, 0))], [((3, 0), (.own 0)), ((2, 0), (.own 1)), ((5, 0), (.val .bool))]⟩ true
     (.loop ⟨[((.ptr 64 kWP), (.ow .sh), (3, 0)), ((.ptr 64 kWP), (.ow .sh), (2, 0))], [((8, 0), (.val (.int .i64))), ((3, 0), (.own 0)), ((2, 0), (.own 1)), ((5, 0), (.val .bool))]⟩
       (.seq (.seq .leaf
       (.cond none
         .leaf
         .leaf))
       (.seq (.block ⟨[((.ptr 64 kWP), (.ow .sh), (3, 0)), ((.ptr 64 kWP), (.ow .sh), (2, 0))], [((3, 0), (.own 0)), ((2, 0), (.own 1)), ((5, 0), (.val .bool)), ((8, 0), (.val (.int .i64)))]⟩ true
         .leaf)
       .leaf)))))
   (.seq (.seq .leaf
   (.block ⟨[((.ptr 64 kWP), (.ow .sh), (3, 0)), ((.ptr 64 kWP), (.ow .sh), (2, 0))], [((3, 0), (.own 0)), ((2, 0), (.own 1)), ((5, 0), (.val .bool))]⟩ true
     (.loop ⟨[((.ptr 64 kWP), (.ow .sh), (3, 0)), ((.ptr 64 kWP), (.ow .sh), (2, 0))], [((9, 0), (.val (.int .i64))), ((3, 0), (.own 0)), ((2, 0), (.own 1)), ((5, 0), (.val .bool))]⟩
       (.seq (.seq .leaf
       (.cond none
         .leaf
         .leaf))
       (.seq (.block ⟨[((.ptr 64 kWP), (.ow .sh), (3, 0)), ((.ptr 64 kWP), (.ow .sh), (2, 0))], [((3, 0), (.own 0)), ((2, 0), (.own 1)), ((5, 0), (.val .bool)), ((9, 0), (.val (.int .i64)))]⟩ true
         .leaf)
       .leaf)))))
   (.seq (.seq .leaf
   (.block ⟨[((.ptr 64 kWP), (.ow .sh), (3, 0)), ((.ptr 64 kWP), (.ow .sh), (2, 0))], [((3, 0), (.own 0)), ((2, 0), (.own 1)), ((5, 0), (.val .bool))]⟩ true
     (.loop ⟨[((.ptr 64 kWP), (.ow .sh), (3, 0)), ((.ptr 64 kWP), (.ow .sh), (2, 0))], [((10, 0), (.val (.int .i64))), ((3, 0), (.own 0)), ((2, 0), (.own 1)), ((5, 0), (.val .bool))]⟩
       (.seq (.seq .leaf
       (.cond none
         .leaf
         .leaf))
       (.seq (.block ⟨[((.ptr 64 kWP), (.ow .sh), (3, 0)), ((.ptr 64 kWP), (.ow .sh), (2, 0))], [((3, 0), (.own 0)), ((2, 0), (.own 1)), ((5, 0), (.val .bool)), ((10, 0), (.val (.int .i64)))]⟩ true
         .leaf)
       .leaf)))))
   (.seq (.seq .leaf
   (.block ⟨[], [((5, 0), (.val .bool))]⟩ true
     (.loop ⟨[((.ptr 64 kWP), (.ow .sh), (3, 0)), ((.ptr 64 kWP), (.ow .sh), (2, 0))], [((11, 0), (.val (.int .i64))), ((3, 0), (.own 0)), ((2, 0), (.own 1)), ((5, 0), (.val .bool))]⟩
       (.seq (.seq .leaf
       (.cond none
         .leaf
         .leaf))
       (.seq (.block ⟨[((.ptr 64 kWP), (.ow .sh), (3, 0)), ((.ptr 64 kWP), (.ow .sh), (2, 0))], [((3, 0), (.own 0)), ((2, 0), (.own 1)), ((5, 0), (.val .bool)), ((11, 0), (.val (.int .i64)))]⟩ true
         .leaf)
       .leaf)))))
   (.seq .leaf
   .leaf))))))))))))
def d61_K1  : ((Unit × (Bool × Unit)) → (Option ((Bool × Unit) × Unit))) :=
  (fun (x80 : (Unit × (Bool × Unit))) => (Option.some ((x80.2.1, ()), ())))
def d61_K2 (x81 : (((WP × (WP × Unit)) × (Int × (Bool × Unit))) → (Option ((Bool × Unit) × Unit)))) : (((WP × (WP × Unit)) × (Bool × (Int × Unit))) → (Option ((Bool × Unit) × Unit))) :=
  (fun (x86 : ((WP × (WP × Unit)) × (Bool × (Int × Unit)))) => (x81 ((x86.1.1, (x86.1.2.1, ())), ((Go.IntKind.wrap Go.IntKind.i64 (x86.2.2.1 + (1 : Int))), (x86.2.1, ())))))
def d61_L3 (x80 : ((Unit × (Bool × Unit)) → (Option ((Bool × Unit) × Unit)))) : ((((WP × (WP × Unit)) × (Int × (Bool × Unit))) → (Option ((Bool × Unit) × Unit))) → (((WP × (WP × Unit)) × (Int × (Bool × Unit))) → (Option ((Bool × Unit) × Unit)))) :=
  (fun (x81 : (((WP × (WP × Unit)) × (Int × (Bool × Unit))) → (Option ((Bool × Unit) × Unit)))) => (fun (x82 : ((WP × (WP × Unit)) × (Int × (Bool × Unit)))) => (lt (((List.length (List.take x82.1.2.1.2.2.2.2.2.2.2.2.2.2.1.2 x82.1.2.1.2.2.2.2.2.2.2.2.2.2.1.1)) : Nat) : Int) fun (x83 : Int) =>
  (lt (Decidable.decide (x82.2.1 < x83)) fun (x84 : Bool) =>
  (lt (if (x82.2.2.1 = Bool.true) then
  x84
  else Bool.false) fun (x85 : Bool) =>
  (if (x85 = Bool.true) then
  (shr (d61_K2 x81) (fun (x86 : (((WP × (WP × Unit)) × (Bool × (Int × Unit))) → (Option ((Bool × Unit) × Unit)))) => (if (((Decidable.decide ((0 : Int) ≤ x82.2.1)) && (Decidable.decide (x82.2.1 < (((List.length (List.take x82.1.2.1.2.2.2.2.2.2.2.2.2.2.1.2 x82.1.2.1.2.2.2.2.2.2.2.2.2.2.1.1)) : Nat) : Int)))) = Bool.true) then
  (lt (List.getD (List.take x82.1.2.1.2.2.2.2.2.2.2.2.2.2.1.2 x82.1.2.1.2.2.2.2.2.2.2.2.2.2.1.1) (Int.toNat x82.2.1) ((0 : Int), ((0 : Int), ()))) fun (x87 : I2) =>
  (if (((Decidable.decide ((0 : Int) ≤ x82.2.1)) && (Decidable.decide (x82.2.1 < (((List.length (List.take x82.1.1.2.2.2.2.2.2.2.2.2.2.1.2 x82.1.1.2.2.2.2.2.2.2.2.2.2.1.1)) : Nat) : Int)))) = Bool.true) then
  (lt (List.getD (List.take x82.1.1.2.2.2.2.2.2.2.2.2.2.1.2 x82.1.1.2.2.2.2.2.2.2.2.2.2.1.1) (Int.toNat x82.2.1) ((0 : Int), ((0 : Int), ()))) fun (x88 : I2) =>
  (x86 ((x82.1.1, (x82.1.2.1, ())), (((x87.1 == x88.1) && ((x87.2.1 == x88.2.1) && Bool.true)), (x82.2.1, ())))))
  else (Option.none)))
  else (Option.none))))
  else (x80 ((), (x82.2.2.1, ())))))))))
def d61_K4 (x0 : Nat) : (((WP × (WP × Unit)) × (Bool × Unit)) → (Option ((Bool × Unit) × Unit))) :=
  (fun (x79 : ((WP × (WP × Unit)) × (Bool × Unit))) => (shr d61_K1 (fun (x80 : ((Unit × (Bool × Unit)) → (Option ((Bool × Unit) × Unit)))) => (loopN (d61_L3 x80) x0 ((x79.1.1, (x79.1.2.1, ())), ((0 : Int), (x79.2.1, ())))))))
def d61_K5 (x80 : (((WP × (WP × Unit)) × (Int × (Bool × Unit))) → (Option ((Bool × Unit) × Unit)))) : (((WP × (WP × Unit)) × (Bool × (Int × Unit))) → (Option ((Bool × Unit) × Unit))) :=
  (fun (x85 : ((WP × (WP × Unit)) × (Bool × (Int × Unit)))) => (x80 ((x85.1.1, (x85.1.2.1, ())), ((Go.IntKind.wrap Go.IntKind.i64 (x85.2.2.1 + (1 : Int))), (x85.2.1, ())))))
def d61_L6 (x79 : (((WP × (WP × Unit)) × (Bool × Unit)) → (Option ((Bool × Unit) × Unit)))) : ((((WP × (WP × Unit)) × (Int × (Bool × Unit))) → (Option ((Bool × Unit) × Unit))) → (((WP × (WP × Unit)) × (Int × (Bool × Unit))) → (Option ((Bool × Unit) × Unit)))) :=
  (fun (x80 : (((WP × (WP × Unit)) × (Int × (Bool × Unit))) → (Option ((Bool × Unit) × Unit)))) => (fun (x81 : ((WP × (WP × Unit)) × (Int × (Bool × Unit)))) => (lt (((List.length (List.take x81.1.2.1.2.2.2.2.2.2.2.2.2.1.2 x81.1.2.1.2.2.2.2.2.2.2.2.2.1.1)) : Nat) : Int) fun (x82 : Int) =>
  (lt (Decidable.decide (x81.2.1 < x82)) fun (x83 : Bool) =>
  (lt (if (x81.2.2.1 = Bool.true) then
  x83
  else Bool.false) fun (x84 : Bool) =>
  (if (x84 = Bool.true) then
  (shr (d61_K5 x80) (fun (x85 : (((WP × (WP × Unit)) × (Bool × (Int × Unit))) → (Option ((Bool × Unit) × Unit)))) => (if (((Decidable.decide ((0 : Int) ≤ x81.2.1)) && (Decidable.decide (x81.2.1 < (((List.length (List.take x81.1.2.1.2.2.2.2.2.2.2.2.2.1.2 x81.1.2.1.2.2.2.2.2.2.2.2.2.1.1)) : Nat) : Int)))) = Bool.true) then
  (lt (List.getD (List.take x81.1.2.1.2.2.2.2.2.2.2.2.2.1.2 x81.1.2.1.2.2.2.2.2.2.2.2.2.1.1) (Int.toNat x81.2.1) Bool.false) fun (x86 : Bool) =>
  (if (((Decidable.decide ((0 : Int) ≤ x81.2.1)) && (Decidable.decide (x81.2.1 < (((List.length (List.take x81.1.1.2.2.2.2.2.2.2.2.2.1.2 x81.1.1.2.2.2.2.2.2.2.2.2.1.1)) : Nat) : Int)))) = Bool.true) then
  (x85 ((x81.1.1, (x81.1.2.1, ())), ((x86 == (List.getD (List.take x81.1.1.2.2.2.2.2.2.2.2.2.1.2 x81.1.1.2.2.2.2.2.2.2.2.2.1.1) (Int.toNat x81.2.1) Bool.false)), (x81.2.1, ()))))
  else (Option.none)))
  else (Option.none))))
  else (x79 ((x81.1.1, (x81.1.2.1, ())), (x81.2.2.1, ())))))))))
def d61_K7 (x0 : Nat) : (((WP × (WP × Unit)) × (Bool × Unit)) → (Option ((Bool × Unit) × Unit))) :=
  (fun (x78 : ((WP × (WP × Unit)) × (Bool × Unit))) => (shr (d61_K4 x0) (fun (x79 : (((WP × (WP × Unit)) × (Bool × Unit)) → (Option ((Bool × Unit) × Unit)))) => (loopN (d61_L6 x79) x0 ((x78.1.1, (x78.1.2.1, ())), ((0 : Int), (x78.2.1, ())))))))
def d61_K8 (x79 : (((WP × (WP × Unit)) × (Int × (Bool × Unit))) → (Option ((Bool × Unit) × Unit)))) : (((WP × (WP × Unit)) × (Bool × (Int × Unit))) → (Option ((Bool × Unit) × Unit))) :=
  (fun (x84 : ((WP × (WP × Unit)) × (Bool × (Int × Unit)))) => (x79 ((x84.1.1, (x84.1.2.1, ())), ((Go.IntKind.wrap Go.IntKind.i64 (x84.2.2.1 + (1 : Int))), (x84.2.1, ())))))
def d61_L9 (x78 : (((WP × (WP × Unit)) × (Bool × Unit)) → (Option ((Bool × Unit) × Unit)))) : ((((WP × (WP × Unit)) × (Int × (Bool × Unit))) → (Option ((Bool × Unit) × Unit))) → (((WP × (WP × Unit)) × (Int × (Bool × Unit))) → (Option ((Bool × Unit) × Unit)))) :=
  (fun (x79 : (((WP × (WP × Unit)) × (Int × (Bool × Unit))) → (Option ((Bool × Unit) × Unit)))) => (fun (x80 : ((WP × (WP × Unit)) × (Int × (Bool × Unit)))) => (lt (((List.length (List.take x80.1.2.1.2.2.2.2.2.2.2.2.1.2 x80.1.2.1.2.2.2.2.2.2.2.2.1.1)) : Nat) : Int) fun (x81 : Int) =>
  (lt (Decidable.decide (x80.2.1 < x81)) fun (x82 : Bool) =>
  (lt (if (x80.2.2.1 = Bool.true) then
  x82
  else Bool.false) fun (x83 : Bool) =>
  (if (x83 = Bool.true) then
  (shr (d61_K8 x79) (fun (x84 : (((WP × (WP × Unit)) × (Bool × (Int × Unit))) → (Option ((Bool × Unit) × Unit)))) => (if (((Decidable.decide ((0 : Int) ≤ x80.2.1)) && (Decidable.decide (x80.2.1 < (((List.length (List.take x80.1.2.1.2.2.2.2.2.2.2.2.1.2 x80.1.2.1.2.2.2.2.2.2.2.2.1.1)) : Nat) : Int)))) = Bool.true) then
  (lt (List.getD (List.take x80.1.2.1.2.2.2.2.2.2.2.2.1.2 x80.1.2.1.2.2.2.2.2.2.2.2.1.1) (Int.toNat x80.2.1) ((0 : Int), ((0 : Int), ()))) fun (x85 : I2) =>
  (if (((Decidable.decide ((0 : Int) ≤ x80.2.1)) && (Decidable.decide (x80.2.1 < (((List.length (List.take x80.1.1.2.2.2.2.2.2.2.2.1.2 x80.1.1.2.2.2.2.2.2.2.2.1.1)) : Nat) : Int)))) = Bool.true) then
  (lt (List.getD (List.take x80.1.1.2.2.2.2.2.2.2.2.1.2 x80.1.1.2.2.2.2.2.2.2.2.1.1) (Int.toNat x80.2.1) ((0 : Int), ((0 : Int), ()))) fun (x86 : I2) =>
  (x84 ((x80.1.1, (x80.1.2.1, ())), (((x85.1 == x86.1) && ((x85.2.1 == x86.2.1) && Bool.true)), (x80.2.1, ())))))
  else (Option.none)))
  else (Option.none))))
  else (x78 ((x80.1.1, (x80.1.2.1, ())), (x80.2.2.1, ())))))))))
def d61_K10 (x0 : Nat) : (((WP × (WP × Unit)) × (Bool × Unit)) → (Option ((Bool × Unit) × Unit))) :=
  (fun (x77 : ((WP × (WP × Unit)) × (Bool × Unit))) => (shr (d61_K7 x0) (fun (x78 : (((WP × (WP × Unit)) × (Bool × Unit)) → (Option ((Bool × Unit) × Unit)))) => (loopN (d61_L9 x78) x0 ((x77.1.1, (x77.1.2.1, ())), ((0 : Int), (x77.2.1, ())))))))
def d61_K11 (x78 : (((WP × (WP × Unit)) × (Int × (Bool × Unit))) → (Option ((Bool × Unit) × Unit)))) : (((WP × (WP × Unit)) × (Bool × (Int × Unit))) → (Option ((Bool × Unit) × Unit))) :=
  (fun (x83 : ((WP × (WP × Unit)) × (Bool × (Int × Unit)))) => (x78 ((x83.1.1, (x83.1.2.1, ())), ((Go.IntKind.wrap Go.IntKind.i64 (x83.2.2.1 + (1 : Int))), (x83.2.1, ())))))
def d61_L12 (x77 : (((WP × (WP × Unit)) × (Bool × Unit)) → (Option ((Bool × Unit) × Unit)))) : ((((WP × (WP × Unit)) × (Int × (Bool × Unit))) → (Option ((Bool × Unit) × Unit))) → (((WP × (WP × Unit)) × (Int × (Bool × Unit))) → (Option ((Bool × Unit) × Unit)))) :=
  (fun (x78 : (((WP × (WP × Unit)) × (Int × (Bool × Unit))) → (Option ((Bool × Unit) × Unit)))) => (fun (x79 : ((WP × (WP × Unit)) × (Int × (Bool × Unit)))) => (lt (((List.length (List.take x79.1.2.1.2.2.2.2.2.1.2 x79.1.2.1.2.2.2.2.2.1.1)) : Nat) : Int) fun (x80 : Int) =>
  (lt (Decidable.decide (x79.2.1 < x80)) fun (x81 : Bool) =>
  (lt (if (x79.2.2.1 = Bool.true) then
  x81
  else Bool.false) fun (x82 : Bool) =>
  (if (x82 = Bool.true) then
  (shr (d61_K11 x78) (fun (x83 : (((WP × (WP × Unit)) × (Bool × (Int × Unit))) → (Option ((Bool × Unit) × Unit)))) => (if (((Decidable.decide ((0 : Int) ≤ x79.2.1)) && (Decidable.decide (x79.2.1 < (((List.length (List.take x79.1.2.1.2.2.2.2.2.1.2 x79.1.2.1.2.2.2.2.2.1.1)) : Nat) : Int)))) = Bool.true) then
  (lt (List.getD (List.take x79.1.2.1.2.2.2.2.2.1.2 x79.1.2.1.2.2.2.2.2.1.1) (Int.toNat x79.2.1) ((0 : Int), ((0 : Int), ((0 : Int), ((0 : Int), ((0 : Int), (Bool.false, ()))))))) fun (x84 : PC) =>
  (if (((Decidable.decide ((0 : Int) ≤ x79.2.1)) && (Decidable.decide (x79.2.1 < (((List.length (List.take x79.1.1.2.2.2.2.2.1.2 x79.1.1.2.2.2.2.2.1.1)) : Nat) : Int)))) = Bool.true) then
  (lt (List.getD (List.take x79.1.1.2.2.2.2.2.1.2 x79.1.1.2.2.2.2.2.1.1) (Int.toNat x79.2.1) ((0 : Int), ((0 : Int), ((0 : Int), ((0 : Int), ((0 : Int), (Bool.false, ()))))))) fun (x85 : PC) =>
  (x83 ((x79.1.1, (x79.1.2.1, ())), (((x84.1 == x85.1) && ((x84.2.1 == x85.2.1) && ((x84.2.2.1 == x85.2.2.1) && ((x84.2.2.2.1 == x85.2.2.2.1) && ((x84.2.2.2.2.1 == x85.2.2.2.2.1) && ((x84.2.2.2.2.2.1 == x85.2.2.2.2.2.1) && Bool.true)))))), (x79.2.1, ())))))
  else (Option.none)))
  else (Option.none))))
  else (x77 ((x79.1.1, (x79.1.2.1, ())), (x79.2.2.1, ())))))))))
def d61_K13 (x0 : Nat) : (((WP × (WP × Unit)) × (Bool × Unit)) → (Option ((Bool × Unit) × Unit))) :=
  (fun (x76 : ((WP × (WP × Unit)) × (Bool × Unit))) => (shr (d61_K10 x0) (fun (x77 : (((WP × (WP × Unit)) × (Bool × Unit)) → (Option ((Bool × Unit) × Unit)))) => (loopN (d61_L12 x77) x0 ((x76.1.1, (x76.1.2.1, ())), ((0 : Int), (x76.2.1, ())))))))
def d61_K14 (x77 : (((WP × (WP × Unit)) × (Int × (Bool × Unit))) → (Option ((Bool × Unit) × Unit)))) : (((WP × (WP × Unit)) × (Bool × (Int × Unit))) → (Option ((Bool × Unit) × Unit))) :=
  (fun (x82 : ((WP × (WP × Unit)) × (Bool × (Int × Unit)))) => (x77 ((x82.1.1, (x82.1.2.1, ())), ((Go.IntKind.wrap Go.IntKind.i64 (x82.2.2.1 + (1 : Int))), (x82.2.1, ())))))
def d61_L15 (x76 : (((WP × (WP × Unit)) × (Bool × Unit)) → (Option ((Bool × Unit) × Unit)))) : ((((WP × (WP × Unit)) × (Int × (Bool × Unit))) → (Option ((Bool × Unit) × Unit))) → (((WP × (WP × Unit)) × (Int × (Bool × Unit))) → (Option ((Bool × Unit) × Unit)))) :=
  (fun (x77 : (((WP × (WP × Unit)) × (Int × (Bool × Unit))) → (Option ((Bool × Unit) × Unit)))) => (fun (x78 : ((WP × (WP × Unit)) × (Int × (Bool × Unit)))) => (lt (((List.length (List.take x78.1.2.1.2.2.2.2.1.2 x78.1.2.1.2.2.2.2.1.1)) : Nat) : Int) fun (x79 : Int) =>
  (lt (Decidable.decide (x78.2.1 < x79)) fun (x80 : Bool) =>
  (lt (if (x78.2.2.1 = Bool.true) then
  x80
  else Bool.false) fun (x81 : Bool) =>
  (if (x81 = Bool.true) then
  (shr (d61_K14 x77) (fun (x82 : (((WP × (WP × Unit)) × (Bool × (Int × Unit))) → (Option ((Bool × Unit) × Unit)))) => (if (((Decidable.decide ((0 : Int) ≤ x78.2.1)) && (Decidable.decide (x78.2.1 < (((List.length (List.take x78.1.2.1.2.2.2.2.1.2 x78.1.2.1.2.2.2.2.1.1)) : Nat) : Int)))) = Bool.true) then
  (lt (List.getD (List.take x78.1.2.1.2.2.2.2.1.2 x78.1.2.1.2.2.2.2.1.1) (Int.toNat x78.2.1) ((0 : Int), ((0 : Int), ((0 : Int), ((0 : Int), ((0 : Int), ())))))) fun (x83 : IS) =>
  (if (((Decidable.decide ((0 : Int) ≤ x78.2.1)) && (Decidable.decide (x78.2.1 < (((List.length (List.take x78.1.1.2.2.2.2.1.2 x78.1.1.2.2.2.2.1.1)) : Nat) : Int)))) = Bool.true) then
  (lt (List.getD (List.take x78.1.1.2.2.2.2.1.2 x78.1.1.2.2.2.2.1.1) (Int.toNat x78.2.1) ((0 : Int), ((0 : Int), ((0 : Int), ((0 : Int), ((0 : Int), ())))))) fun (x84 : IS) =>
  (x82 ((x78.1.1, (x78.1.2.1, ())), (((x83.1 == x84.1) && ((x83.2.1 == x84.2.1) && ((x83.2.2.1 == x84.2.2.1) && ((x83.2.2.2.1 == x84.2.2.2.1) && ((x83.2.2.2.2.1 == x84.2.2.2.2.1) && Bool.true))))), (x78.2.1, ())))))
  else (Option.none)))
  else (Option.none))))
  else (x76 ((x78.1.1, (x78.1.2.1, ())), (x78.2.2.1, ())))))))))
def d61_K16 (x0 : Nat) : (((WP × (WP × Unit)) × (Bool × Unit)) → (Option ((Bool × Unit) × Unit))) :=
  (fun (x75 : ((WP × (WP × Unit)) × (Bool × Unit))) => (shr (d61_K13 x0) (fun (x76 : (((WP × (WP × Unit)) × (Bool × Unit)) → (Option ((Bool × Unit) × Unit)))) => (loopN (d61_L15 x76) x0 ((x75.1.1, (x75.1.2.1, ())), ((0 : Int), (x75.2.1, ())))))))
def d61_K17 (x76 : (((WP × (WP × Unit)) × (Int × (Bool × Unit))) → (Option ((Bool × Unit) × Unit)))) : (((WP × (WP × Unit)) × (Bool × (Int × Unit))) → (Option ((Bool × Unit) × Unit))) :=
  (fun (x81 : ((WP × (WP × Unit)) × (Bool × (Int × Unit)))) => (x76 ((x81.1.1, (x81.1.2.1, ())), ((Go.IntKind.wrap Go.IntKind.i64 (x81.2.2.1 + (1 : Int))), (x81.2.1, ())))))
def d61_L18 (x75 : (((WP × (WP × Unit)) × (Bool × Unit)) → (Option ((Bool × Unit) × Unit)))) : ((((WP × (WP × Unit)) × (Int × (Bool × Unit))) → (Option ((Bool × Unit) × Unit))) → (((WP × (WP × Unit)) × (Int × (Bool × Unit))) → (Option ((Bool × Unit) × Unit)))) :=
  (fun (x76 : (((WP × (WP × Unit)) × (Int × (Bool × Unit))) → (Option ((Bool × Unit) × Unit)))) => (fun (x77 : ((WP × (WP × Unit)) × (Int × (Bool × Unit)))) => (lt (((List.length (List.take x77.1.2.1.2.2.2.1.2 x77.1.2.1.2.2.2.1.1)) : Nat) : Int) fun (x78 : Int) =>
  (lt (Decidable.decide (x77.2.1 < x78)) fun (x79 : Bool) =>
  (lt (if (x77.2.2.1 = Bool.true) then
  x79
  else Bool.false) fun (x80 : Bool) =>
  (if (x80 = Bool.true) then
  (shr (d61_K17 x76) (fun (x81 : (((WP × (WP × Unit)) × (Bool × (Int × Unit))) → (Option ((Bool × Unit) × Unit)))) => (if (((Decidable.decide ((0 : Int) ≤ x77.2.1)) && (Decidable.decide (x77.2.1 < (((List.length (List.take x77.1.2.1.2.2.2.1.2 x77.1.2.1.2.2.2.1.1)) : Nat) : Int)))) = Bool.true) then
  (lt (List.getD (List.take x77.1.2.1.2.2.2.1.2 x77.1.2.1.2.2.2.1.1) (Int.toNat x77.2.1) (0 : Int)) fun (x82 : Int) =>
  (if (((Decidable.decide ((0 : Int) ≤ x77.2.1)) && (Decidable.decide (x77.2.1 < (((List.length (List.take x77.1.1.2.2.2.1.2 x77.1.1.2.2.2.1.1)) : Nat) : Int)))) = Bool.true) then
  (x81 ((x77.1.1, (x77.1.2.1, ())), ((x82 == (List.getD (List.take x77.1.1.2.2.2.1.2 x77.1.1.2.2.2.1.1) (Int.toNat x77.2.1) (0 : Int))), (x77.2.1, ()))))
  else (Option.none)))
  else (Option.none))))
  else (x75 ((x77.1.1, (x77.1.2.1, ())), (x77.2.2.1, ())))))))))
def d61 : (Nat → ((WP × (WP × Unit)) → (Option ((Bool × Unit) × Unit)))) :=
  (fun (x0 : Nat) => (fun (x1 : (WP × (WP × Unit))) => (lt (((List.length (List.take x1.1.2.2.2.1.2 x1.1.2.2.2.1.1)) : Nat) : Int) fun (x2 : Int) =>
  (lt (((List.length (List.take x1.2.1.2.2.2.1.2 x1.2.1.2.2.2.1.1)) : Nat) : Int) fun (x3 : Int) =>
  (lt (x2 == x3) fun (x4 : Bool) =>
  (lt (((List.length (List.take x1.1.2.2.2.2.1.2 x1.1.2.2.2.2.1.1)) : Nat) : Int) fun (x5 : Int) =>
  (lt (((List.length (List.take x1.2.1.2.2.2.2.1.2 x1.2.1.2.2.2.2.1.1)) : Nat) : Int) fun (x6 : Int) =>
  (lt (x5 == x6) fun (x7 : Bool) =>
  (lt (if (x4 = Bool.true) then
  x7
  else Bool.false) fun (x8 : Bool) =>
  (lt (((List.length (List.take x1.1.2.2.2.2.2.1.2 x1.1.2.2.2.2.2.1.1)) : Nat) : Int) fun (x9 : Int) =>
  (lt (((List.length (List.take x1.2.1.2.2.2.2.2.1.2 x1.2.1.2.2.2.2.2.1.1)) : Nat) : Int) fun (x10 : Int) =>
  (lt (x9 == x10) fun (x11 : Bool) =>
  (lt (if (x8 = Bool.true) then
  x11
  else Bool.false) fun (x12 : Bool) =>
  (lt (((List.length (List.take x1.1.2.2.2.2.2.2.2.2.1.2 x1.1.2.2.2.2.2.2.2.2.1.1)) : Nat) : Int) fun (x13 : Int) =>
  (lt (((List.length (List.take x1.2.1.2.2.2.2.2.2.2.2.1.2 x1.2.1.2.2.2.2.2.2.2.2.1.1)) : Nat) : Int) fun (x14 : Int) =>
  (lt (x13 == x14) fun (x15 : Bool) =>
  (lt (if (x12 = Bool.true) then
  x15
  else Bool.false) fun (x16 : Bool) =>
  (lt (((List.length (List.take x1.1.2.2.2.2.2.2.2.2.2.1.2 x1.1.2.2.2.2.2.2.2.2.2.1.1)) : Nat) : Int) fun (x17 : Int) =>
  (lt (((List.length (List.take x1.2.1.2.2.2.2.2.2.2.2.2.1.2 x1.2.1.2.2.2.2.2.2.2.2.2.1.1)) : Nat) : Int) fun (x18 : Int) =>
  (lt (x17 == x18) fun (x19 : Bool) =>
  (lt (if (x16 = Bool.true) then
  x19
  else Bool.false) fun (x20 : Bool) =>
  (lt (((List.length (List.take x1.1.2.2.2.2.2.2.2.2.2.2.1.2 x1.1.2.2.2.2.2.2.2.2.2.2.1.1)) : Nat) : Int) fun (x21 : Int) =>
  (lt (((List.length (List.take x1.2.1.2.2.2.2.2.2.2.2.2.2.1.2 x1.2.1.2.2.2.2.2.2.2.2.2.2.1.1)) : Nat) : Int) fun (x22 : Int) =>
  (lt (x21 == x22) fun (x23 : Bool) =>
  (lt (if (x20 = Bool.true) then
  x23
  else Bool.false) fun (x24 : Bool) =>
  (lt ((x1.1.1.1 == x1.2.1.1.1) && ((x1.1.1.2.1 == x1.2.1.1.2.1) && ((x1.1.1.2.2.1 == x1.2.1.1.2.2.1) && ((x1.1.1.2.2.2.1 == x1.2.1.1.2.2.2.1) && Bool.true)))) fun (x25 : Bool) =>
  (lt (if (x24 = Bool.true) then
  x25
  else Bool.false) fun (x26 : Bool) =>
  (lt (x1.1.2.1 == x1.2.1.2.1) fun (x27 : Bool) =>
  (lt (if (x26 = Bool.true) then
  x27
  else Bool.false) fun (x28 : Bool) =>
  (lt (x1.1.2.2.1 == x1.2.1.2.2.1) fun (x29 : Bool) =>
  (lt (if (x28 = Bool.true) then
  x29
  else Bool.false) fun (x30 : Bool) =>
  (lt (x1.1.2.2.2.2.2.2.1 == x1.2.1.2.2.2.2.2.2.1) fun (x31 : Bool) =>
  (lt (if (x30 = Bool.true) then
  x31
  else Bool.false) fun (x32 : Bool) =>
  (lt (Go.Lift.allEq (fun (x33 : Int) => (fun (x34 : Int) => (x33 == x34))) x1.1.2.2.2.2.2.2.2.1 x1.2.1.2.2.2.2.2.2.2.1) fun (x33 : Bool) =>
  (lt (if (x32 = Bool.true) then
  x33
  else Bool.false) fun (x34 : Bool) =>
  (lt (((List.length (List.take x1.2.1.2.2.2.1.2 x1.2.1.2.2.2.1.1)) : Nat) : Int) fun (x35 : Int) =>
  (lt (Go.IntKind.wrap Go.IntKind.i64 (x35 + (1 : Int))) fun (x36 : Int) =>
  (if (((Bool.not ((x34 == Bool.true) && Bool.true)) || ((Decidable.decide ((0 : Int) ≤ x36)) && (Decidable.decide ((Int.toNat x36) ≤ (List.length x1.1.2.2.2.1.1))))) = Bool.true) then
  (lt (Int.toNat x36) fun (x37 : Nat) =>
  (lt (((List.length (List.take x1.2.1.2.2.2.1.2 x1.2.1.2.2.2.1.1)) : Nat) : Int) fun (x38 : Int) =>
  (if (((Bool.not ((x34 == Bool.true) && Bool.true)) || ((Decidable.decide ((0 : Int) ≤ x38)) && (Decidable.decide (x38 < (((List.length (List.take x37 x1.1.2.2.2.1.1)) : Nat) : Int))))) = Bool.true) then
  (lt (List.getD (List.take x37 x1.1.2.2.2.1.1) (Int.toNat x38) (0 : Int)) fun (x39 : Int) =>
  (lt (x39 == (Neg.neg (77 : Int))) fun (x40 : Bool) =>
  (lt (if (x34 = Bool.true) then
  x40
  else Bool.false) fun (x41 : Bool) =>
  (lt (((List.length (List.take x1.2.1.2.2.2.2.1.2 x1.2.1.2.2.2.2.1.1)) : Nat) : Int) fun (x42 : Int) =>
  (lt (Go.IntKind.wrap Go.IntKind.i64 (x42 + (1 : Int))) fun (x43 : Int) =>
  (if (((Bool.not ((x41 == Bool.true) && Bool.true)) || ((Decidable.decide ((0 : Int) ≤ x43)) && (Decidable.decide ((Int.toNat x43) ≤ (List.length x1.1.2.2.2.2.1.1))))) = Bool.true) then
  (lt (Int.toNat x43) fun (x44 : Nat) =>
  (lt (((List.length (List.take x1.2.1.2.2.2.2.1.2 x1.2.1.2.2.2.2.1.1)) : Nat) : Int) fun (x45 : Int) =>
  (if (((Bool.not ((x41 == Bool.true) && Bool.true)) || ((Decidable.decide ((0 : Int) ≤ x45)) && (Decidable.decide (x45 < (((List.length (List.take x44 x1.1.2.2.2.2.1.1)) : Nat) : Int))))) = Bool.true) then
  (lt (List.getD (List.take x44 x1.1.2.2.2.2.1.1) (Int.toNat x45) ((0 : Int), ((0 : Int), ((0 : Int), ((0 : Int), ((0 : Int), ())))))).1 fun (x46 : Int) =>
  (lt (x46 == (77 : Int)) fun (x47 : Bool) =>
  (lt (if (x41 = Bool.true) then
  x47
  else Bool.false) fun (x48 : Bool) =>
  (lt (((List.length (List.take x1.2.1.2.2.2.2.2.1.2 x1.2.1.2.2.2.2.2.1.1)) : Nat) : Int) fun (x49 : Int) =>
  (lt (Go.IntKind.wrap Go.IntKind.i64 (x49 + (1 : Int))) fun (x50 : Int) =>
  (if (((Bool.not ((x48 == Bool.true) && Bool.true)) || ((Decidable.decide ((0 : Int) ≤ x50)) && (Decidable.decide ((Int.toNat x50) ≤ (List.length x1.1.2.2.2.2.2.1.1))))) = Bool.true) then
  (lt (Int.toNat x50) fun (x51 : Nat) =>
  (lt (((List.length (List.take x1.2.1.2.2.2.2.2.1.2 x1.2.1.2.2.2.2.2.1.1)) : Nat) : Int) fun (x52 : Int) =>
  (if (((Bool.not ((x48 == Bool.true) && Bool.true)) || ((Decidable.decide ((0 : Int) ≤ x52)) && (Decidable.decide (x52 < (((List.length (List.take x51 x1.1.2.2.2.2.2.1.1)) : Nat) : Int))))) = Bool.true) then
  (lt (List.getD (List.take x51 x1.1.2.2.2.2.2.1.1) (Int.toNat x52) ((0 : Int), ((0 : Int), ((0 : Int), ((0 : Int), ((0 : Int), (Bool.false, ()))))))).1 fun (x53 : Int) =>
  (lt (x53 == (Neg.neg (77 : Int))) fun (x54 : Bool) =>
  (lt (if (x48 = Bool.true) then
  x54
  else Bool.false) fun (x55 : Bool) =>
  (lt (((List.length (List.take x1.2.1.2.2.2.2.2.2.2.2.1.2 x1.2.1.2.2.2.2.2.2.2.2.1.1)) : Nat) : Int) fun (x56 : Int) =>
  (lt (Go.IntKind.wrap Go.IntKind.i64 (x56 + (1 : Int))) fun (x57 : Int) =>
  (if (((Bool.not ((x55 == Bool.true) && Bool.true)) || ((Decidable.decide ((0 : Int) ≤ x57)) && (Decidable.decide ((Int.toNat x57) ≤ (List.length x1.1.2.2.2.2.2.2.2.2.1.1))))) = Bool.true) then
  (lt (Int.toNat x57) fun (x58 : Nat) =>
  (lt (((List.length (List.take x1.2.1.2.2.2.2.2.2.2.2.1.2 x1.2.1.2.2.2.2.2.2.2.2.1.1)) : Nat) : Int) fun (x59 : Int) =>
  (if (((Bool.not ((x55 == Bool.true) && Bool.true)) || ((Decidable.decide ((0 : Int) ≤ x59)) && (Decidable.decide (x59 < (((List.length (List.take x58 x1.1.2.2.2.2.2.2.2.2.1.1)) : Nat) : Int))))) = Bool.true) then
  (lt (List.getD (List.take x58 x1.1.2.2.2.2.2.2.2.2.1.1) (Int.toNat x59) ((0 : Int), ((0 : Int), ()))).2.1 fun (x60 : Int) =>
  (lt (x60 == (Neg.neg (77 : Int))) fun (x61 : Bool) =>
  (lt (if (x55 = Bool.true) then
  x61
  else Bool.false) fun (x62 : Bool) =>
  (lt (((List.length (List.take x1.2.1.2.2.2.2.2.2.2.2.2.1.2 x1.2.1.2.2.2.2.2.2.2.2.2.1.1)) : Nat) : Int) fun (x63 : Int) =>
  (lt (Go.IntKind.wrap Go.IntKind.i64 (x63 + (1 : Int))) fun (x64 : Int) =>
  (if (((Bool.not ((x62 == Bool.true) && Bool.true)) || ((Decidable.decide ((0 : Int) ≤ x64)) && (Decidable.decide ((Int.toNat x64) ≤ (List.length x1.1.2.2.2.2.2.2.2.2.2.1.1))))) = Bool.true) then
  (lt (Int.toNat x64) fun (x65 : Nat) =>
  (lt (((List.length (List.take x1.2.1.2.2.2.2.2.2.2.2.2.1.2 x1.2.1.2.2.2.2.2.2.2.2.2.1.1)) : Nat) : Int) fun (x66 : Int) =>
  (if (((Bool.not ((x62 == Bool.true) && Bool.true)) || ((Decidable.decide ((0 : Int) ≤ x66)) && (Decidable.decide (x66 < (((List.length (List.take x65 x1.1.2.2.2.2.2.2.2.2.2.1.1)) : Nat) : Int))))) = Bool.true) then
  (lt (List.getD (List.take x65 x1.1.2.2.2.2.2.2.2.2.2.1.1) (Int.toNat x66) Bool.false) fun (x67 : Bool) =>
  (lt (if (x62 = Bool.true) then
  x67
  else Bool.false) fun (x68 : Bool) =>
  (lt (((List.length (List.take x1.2.1.2.2.2.2.2.2.2.2.2.2.1.2 x1.2.1.2.2.2.2.2.2.2.2.2.2.1.1)) : Nat) : Int) fun (x69 : Int) =>
  (lt (Go.IntKind.wrap Go.IntKind.i64 (x69 + (1 : Int))) fun (x70 : Int) =>
  (if (((Bool.not ((x68 == Bool.true) && Bool.true)) || ((Decidable.decide ((0 : Int) ≤ x70)) && (Decidable.decide ((Int.toNat x70) ≤ (List.length x1.1.2.2.2.2.2.2.2.2.2.2.1.1))))) = Bool.true) then
  (lt (Int.toNat x70) fun (x71 : Nat) =>
  (lt (((List.length (List.take x1.2.1.2.2.2.2.2.2.2.2.2.2.1.2 x1.2.1.2.2.2.2.2.2.2.2.2.2.1.1)) : Nat) : Int) fun (x72 : Int) =>
  (if (((Bool.not ((x68 == Bool.true) && Bool.true)) || ((Decidable.decide ((0 : Int) ≤ x72)) && (Decidable.decide (x72 < (((List.length (List.take x71 x1.1.2.2.2.2.2.2.2.2.2.2.1.1)) : Nat) : Int))))) = Bool.true) then
  (lt (List.getD (List.take x71 x1.1.2.2.2.2.2.2.2.2.2.2.1.1) (Int.toNat x72) ((0 : Int), ((0 : Int), ()))).1 fun (x73 : Int) =>
  (lt (x73 == (Neg.neg (77 : Int))) fun (x74 : Bool) =>
  (shr (d61_K16 x0) (fun (x75 : (((WP × (WP × Unit)) × (Bool × Unit)) → (Option ((Bool × Unit) × Unit)))) => (loopN (d61_L18 x75) x0 ((x1.2.1, (x1.1, ())), ((0 : Int), ((if (x68 = Bool.true) then
  x74
  else Bool.false), ()))))))))
  else (Option.none))))
  else (Option.none))))))
  else (Option.none))))
  else (Option.none)))))))
  else (Option.none))))
  else (Option.none)))))))
  else (Option.none))))
  else (Option.none)))))))
  else (Option.none))))
  else (Option.none)))))))
  else (Option.none))))
  else (Option.none)))))))))))))))))))))))))))))))))))))))
theorem k61 : c_fn Tryz.prog ⟨[], ksW⟩ Tryz.f61 s61 h61 = some d61 := by kernel_rfl
/-- bulkhead/bulkheadlaw26.left -/
def s21 : Sig := ⟨[((.pair (.win (.sl 64 kWP)) (.pair (.win (.sl 41 (.pair (.int .i64) (.pair (.int .i64) (.pair .bool (.pair (.int .i64) kI2)))))) (.pair (.win (.sl 34 (.pair (.int .i64) (.pair (.int .i64) (.pair (.win (.sl 3 (.int .i64))) kI2))))) .unit))), .val), ((.pair (.win (.sl 64 kWP)) (.pair (.win (.sl 41 (.pair (.int .i64) (.pair (.int .i64) (.pair .bool (.pair (.int .i64) kI2)))))) (.pair (.win (.sl 34 (.pair (.int .i64) (.pair (.int .i64) (.pair (.win (.sl 3 (.int .i64))) kI2))))) .unit))), .val)], [(.bool, .val)]⟩
 def h21 : Hint := (.seq .leaf
   (.seq .leaf
   (.seq .leaf
   (.seq .leaf
   (.seq (.seq .leaf
   (.block ⟨[((.ptr 26 (.pair (.win (.sl 64 kWP)) (.pair (.win (.sl 41 (.pair (.int .i64) (.pair (.int .i64) (.pair .bool (.pair (.int .i64) kI2)))))) (.pair (.win (.sl 34 (.pair (.int .i64) (.pair (.int .i64) (.pair (.win (.sl 3 (.int .i64))) kI2))))) .unit)))), (.ow .sh), (3, 0)), ((.ptr 26 (.pair (.win (.sl 64 kWP)) (.pair (.win (.sl 41 (.pair (.int .i64) (.pair (.int .i64) (.pair .bool (.pair (.int .i64) kI2)))))) (.pair (.win (.sl 34 (.pair (.int .i64) (.pair (.int .i64) (.pair (.win (.sl 3 (.int .i64))) kI2))))) .unit)))), (.ow .sh), (2, 0))], [((3, 0), (.own 0)), ((2, 0), (.own 1)), ((5, 0), (.val .bool))]⟩ true
     (.loop ⟨[((.ptr 26 (.pair (.win (.sl 64 kWP)) (.pair (.win (.sl 41 (.pair (.int .i64) (.pair (.int .i64) (.pair .bool (.pair (.int .i64) kI2)))))) (.pair (.win (.sl 34 (.pair (.int .i64) (.pair (.int .i64) (.pair (.win (.sl 3 (.int .i64))) kI2))))) .unit)))), (.ow .sh), (3, 0)), ((.ptr 26 (.pair (.win (.sl 64 kWP)) (.pair (.win (.sl 41 (.pair (.int .i64) (.pair (.int .i64) (.pair .bool (.pair (.int .i64) kI2)))))) (.pair (.win (.sl 34 (.pair (.int .i64) (.pair (.int .i64) (.pair (.win (.sl 3 (.int .i64))) kI2))))) .unit)))), (.ow .sh), (2, 0))], [((6, 0), (.val (.int .i64))), ((3, 0), (.own 0)), ((2, 0), (.own 1)), ((5, 0), (.val .bool))]⟩
       (.seq (.seq .leaf
       (.cond none
         .leaf
         .leaf))
       (.seq (.block ⟨[((.ptr 26 (.pair (.win (.sl 64 kWP)) (.pair (.win (.sl 41 (.pair (.int .i64) (.pair (.int .i64) (.pair .bool (.pair (.int .i64) kI2)))))) (.pair (.win (.sl 34 (.pair (.int .i64) (.pair (.int .i64) (.pair (.win (.sl 3 (.int .i64))) kI2))))) .unit)))), (.ow .sh), (3, 0)), ((.ptr 26 (.pair (.win (.sl 64 kWP)) (.pair (.win (.sl 41 (.pair (.int .i64) (.pair (.int .i64) (.pair .bool (.pair (.int .i64) kI2)))))) (.pair (.win (.sl 34 (.pair (.int .i64) (.pair (.int .i64) (.pair (.win (.sl 3 (.int .i64))) kI2))))) .unit)))), (.ow .sh), (2, 0))], [((3, 0), (.own 0)), ((2, 0), (.own 1)), ((5, 0), (.val .bool)), ((6, 0), (.val (.int .i64)))]⟩ true
         .leaf)
       .leaf)))))
   (.seq (.seq .leaf
   (.block ⟨[((.ptr 26 (.pair (.win (.sl 64 kWP)) (.pair (.win (.sl 41 (.pair (.int .i64) (.pair (.int .i64) (.pair .bool (.pair (.int .i64) kI2)))))) (.pair (.win (.sl 34 (.pair (.int .i64) (.pair (.int .i64) (.pair (.win (.sl 3 (.int .i64))) kI2))))) .unit)))), (.ow .sh), (2, 0)), ((.ptr 26 (.pair (.win (.sl 64 kWP)) (.pair (.win (.sl 41 (.pair (.int .i64) (.pair (.int .i64) (.pair .bool (.pair (.int .i64) kI2)))))) (.pair (.win (.sl 34 (.pair (.int .i64) (.pair (.int .i64) (.pair (.win (.sl 3 (.int .i64))) kI2))))) .unit)))), (.ow .sh), (3, 0))], [((5, 0), (.val .bool)), ((2, 0), (.own 0)), ((3, 0), (.own 1))]⟩ true
     (.loop ⟨[((.ptr 26 (.pair (.win (.sl 64 kWP)) (.pair (.win (.sl 41 (.pair (.int .i64) (.pair (.int .i64) (.pair .bool (.pair (.int .i64) kI2)))))) (.pair (.win (.sl 34 (.pair (.int .i64) (.pair (.int .i64) (.pair (.win (.sl 3 (.int .i64))) kI2))))) .unit)))), (.ow .sh), (3, 0)), ((.ptr 26 (.pair (.win (.sl 64 kWP)) (.pair (.win (.sl 41 (.pair (.int .i64) (.pair (.int .i64) (.pair .bool (.pair (.int .i64) kI2)))))) (.pair (.win (.sl 34 (.pair (.int .i64) (.pair (.int .i64) (.pair (.win (.sl 3 (.int .i64))) kI2))))) .unit)))), (.ow .sh), (2, 0))], [((7, 0), (.val (.int .i64))), ((3, 0), (.own 0)), ((2, 0), (.own 1)), ((5, 0), (.val .bool))]⟩
       (.seq (.seq .leaf
       (.cond none
         .leaf
         .leaf))
       (.seq (.block ⟨[((.ptr 26 (.pair (.win (.sl 64 kWP)) (.pair (.win (.sl 41 (.pair (.int .i64) (.pair (.int .i64) (.pair .bool (.pair (.int .i64) kI2)))))) (.pair (.win (.sl 34 (.pair (.int .i64) (.pair (.int .i64) (.pair (.win (.sl 3 (.int .i64))) kI2))))) .unit)))), (.ow .sh), (3, 0)), ((.ptr 26 (.pair (.win (.sl 64 kWP)) (.pair (.win (.sl 41 (.pair (.int .i64) (.pair (.int .i64) (.pair .bool (.pair (.int .i64) kI2)))))) (.pair (.win (.sl 34 (.pair (.int .i64) (.pair (.int .i64) (.pair (.win (.sl 3 (.int .i64))) kI2))))) .unit)))), (.ow .sh), (2, 0))], [((3, 0), (.own 0)), ((2, 0), (.own 1)), ((5, 0), (.val .bool)), ((7, 0), (.val (.int .i64)))]⟩ true
         .leaf)
       .leaf)))))
   (.seq (.seq .leaf
   (.block ⟨[], [((5, 0), (.val .bool))]⟩ true
     (.loop ⟨[((.ptr 26 (.pair (.win (.sl 64 kWP)) (.pair (.win (.sl 41 (.pair (.int .i64) (.pair (.int .i64) (.pair .bool (.pair (.int .i64) kI2)))))) (.pair (.win (.sl 34 (.pair (.int .i64) (.pair (.int .i64) (.pair (.win (.sl 3 (.int .i64))) kI2))))) .unit)))), (.ow .sh), (2, 0)), ((.ptr 26 (.pair (.win (.sl 64 kWP)) (.pair (.win (.sl 41 (.pair (.int .i64) (.pair (.int .i64) (.pair .bool (.pair (.int .i64) kI2)))))) (.pair (.win (.sl 34 (.pair (.int .i64) (.pair (.int .i64) (.pair (.win (.sl 3 (.int .i64))) kI2))))) .unit)))), (.ow .sh), (3, 0))], [((8, 0), (.val (.int .i64))), ((5, 0), (.val .bool)), ((2, 0), (.own 0)), ((3, 0), (.own 1))]⟩
       (.seq (.seq .leaf
       (.cond none
         .leaf
         .leaf))
       (.seq (.block ⟨[((.ptr 26 (.pair (.win (.sl 64 kWP)) (.pair (.win (.sl 41 (.pair (.int .i64) (.pair (.int .i64) (.pair .bool (.pair (.int .i64) kI2)))))) (.pair (.win (.sl 34 (.pair (.int .i64) (.pair (.int .i64) (.pair (.win (.sl 3 (.int .i64))) kI2))))) .unit)))), (.ow .sh), (2, 0)), ((.ptr 26 (.pair (.win (.sl 64 kWP)) (.pair (.win (.sl 41 (.pair (.int .i64) (.pair (.int .i64) (.pair .bool (.pair (.int .i64) kI2)))))) (.pair (.win (.sl 34 (.pair (.int .i64) (.pair (.int .i64) (.pair (.win (.sl 3 (.int .i64))) kI2))))) .unit)))), (.ow .sh), (3, 0))], [((5, 0), (.val .bool)), ((2, 0), (.own 0)), ((3, 0), (.own 1)), ((8, 0), (.val (.int .i64)))]⟩ true
         (.seq .leaf
         (.seq .leaf
         (.seq .leaf
         (.seq .leaf
         (.seq .leaf
         (.block ⟨[((.ptr 26 (.pair (.win (.sl 64 kWP)) (.pair (.win (.sl 41 (.pair (.int .i64) (.pair (.int .i64) (.pair .bool (.pair (.int .i64) kI2)))))) (.pair (.win (.sl 34 (.pair (.int .i64) (.pair (.int .i64) (.pair (.win (.sl 3 (.int .i64))) kI2))))) .unit)))), (.ow .sh), (2, 0)), ((.ptr 26 (.pair (.win (.sl 64 kWP)) (.pair (.win (.sl 41 (.pair (.int .i64) (.pair (.int .i64) (.pair .bool (.pair (.int .i64) kI2)))))) (.pair (.win (.sl 34 (.pair (.int .i64) (.pair (.int .i64) (.pair (.win (.sl 3 (.int .i64))) kI2))))) .unit)))), (.ow .sh), (3, 0))], [((5, 0), (.val .bool)), ((2, 0), (.own 0)), ((3, 0), (.own 1)), ((8, 0), (.val (.int .i64)))]⟩ true
           (.loop ⟨[((.ptr 34 (.pair (.int .i64) (.pair (.int .i64) (.pair (.win (.sl 3 (.int .i64))) kI2)))), (.ow .sh), (9, 0)), ((.ptr 26 (.pair (.win (.sl 64 kWP)) (.pair (.win (.sl 41 (.pair (.int .i64) (.pair (.int .i64) (.pair .bool (.pair (.int .i64) kI2)))))) (.pair (.win (.sl 34 (.pair (.int .i64) (.pair (.int .i64) (.pair (.win (.sl 3 (.int .i64))) kI2))))) .unit)))), (.ow .sh), (2, 0)), ((.ptr 26 (.pair (.win (.sl 64 kWP)) (.pair (.win (.sl 41 (.pair (.int .i64) (.pair (.int .i64) (.pair .bool (.pair (.int .i64) kI2)))))) (.pair (.win (.sl 34 (.pair (.int .i64) (.pair (.int .i64) (.pair (.win (.sl 3 (.int .i64))) kI2))))) .unit)))), (.ow .sh), (3, 0))], [((12, 0), (.val (.int .i64))), ((9, 0), (.own 0)), ((11, 0), (.val (.win (.sl 3 (.int .i64))))), ((5, 0), (.val .bool)), ((2, 0), (.own 1)), ((3, 0), (.own 2)), ((8, 0), (.val (.int .i64)))]⟩
             (.seq (.seq .leaf
             (.cond none
               .leaf
               .leaf))
             (.seq (.block ⟨[((.ptr 34 (.pair (.int .i64) (.pair (.int .i64) (.pair (.win (.sl 3 (.int .i64))) kI2)))), (.ow .sh), (9, 0)), ((.ptr 26 (.pair (.win (.sl 64 kWP)) (.pair (.win (.sl 41 (.pair (.int .i64) (.pair (.int .i64) (.pair .bool (.pair (.int .i64) kI2)))))) (.pair (.win (.sl 34 (.pair (.int .i64) (.pair (.int .i64) (.pair (.win (.sl 3 (.int .i64))) kI2))))) .unit)))), (.ow .sh), (2, 0)), ((.ptr 26 (.pair (.win (.sl 64 kWP)) (.pair (.win (.sl 41 (.pair (.int .i64) (.pair (.int .i64) (.pair .bool (.pair (.int .i64) kI2)))))) (.pair (.win (.sl 34 (.pair (.int .i64) (.pair (.int .i64) (.pair (.win (.sl 3 (.int .i64))) kI2))))) .unit)))), (.ow .sh), (3, 0))], [((9, 0), (.own 0)), ((11, 0), (.val (.win (.sl 3 (.int .i64))))), ((5, 0), (.val .bool)), ((2, 0), (.own 1)), ((3, 0), (.own 2)), ((8, 0), (.val (.int .i64))), ((12, 0), (.val (.int .i64)))]⟩ true
               .leaf)
             .leaf))))))))))
       .leaf)))))
   (.seq .leaf
   .leaf))))))))
def d21_K1  : ((Unit × (Bool × Unit)) → (Option ((Bool × Unit) × Unit))) :=
  (fun (x23 : (Unit × (Bool × Unit))) => (Option.some ((x23.2.1, ()), ())))
def d21_K2 (x24 : (((WI × (WI × Unit)) × (Int × (Bool × Unit))) → (Option ((Bool × Unit) × Unit)))) : (((WI × (WI × Unit)) × (Bool × (Int × Unit))) → (Option ((Bool × Unit) × Unit))) :=
  (fun (x28 : ((WI × (WI × Unit)) × (Bool × (Int × Unit)))) => (x24 ((x28.1.1, (x28.1.2.1, ())), ((Go.IntKind.wrap Go.IntKind.i64 (x28.2.2.1 + (1 : Int))), (x28.2.1, ())))))
def d21_K3 (x28 : (((WI × (WI × Unit)) × (Bool × (Int × Unit))) → (Option ((Bool × Unit) × Unit)))) : (((WI × (WI × Unit)) × (Bool × (Int × Unit))) → (Option ((Bool × Unit) × Unit))) :=
  (fun (x45 : ((WI × (WI × Unit)) × (Bool × (Int × Unit)))) => (x28 ((x45.1.1, (x45.1.2.1, ())), (x45.2.1, (x45.2.2.1, ())))))
def d21_K4 (x46 : (((WC × (WI × (WI × Unit))) × (Int × (((List Int) × Nat) × (Bool × (Int × Unit))))) → (Option ((Bool × Unit) × Unit)))) : (((WC × (WI × (WI × Unit))) × (((List Int) × Nat) × (Bool × I2))) → (Option ((Bool × Unit) × Unit))) :=
  (fun (x50 : ((WC × (WI × (WI × Unit))) × (((List Int) × Nat) × (Bool × I2)))) => (x46 ((x50.1.1, (x50.1.2.1, (x50.1.2.2.1, ()))), ((Go.IntKind.wrap Go.IntKind.i64 (x50.2.2.2.2.1 + (1 : Int))), (x50.2.1, (x50.2.2.1, (x50.2.2.2.1, ())))))))
def d21_L5 (x45 : (((WI × (WI × Unit)) × (Bool × (Int × Unit))) → (Option ((Bool × Unit) × Unit)))) : ((((WC × (WI × (WI × Unit))) × (Int × (((List Int) × Nat) × (Bool × (Int × Unit))))) → (Option ((Bool × Unit) × Unit))) → (((WC × (WI × (WI × Unit))) × (Int × (((List Int) × Nat) × (Bool × (Int × Unit))))) → (Option ((Bool × Unit) × Unit)))) :=
  (fun (x46 : (((WC × (WI × (WI × Unit))) × (Int × (((List Int) × Nat) × (Bool × (Int × Unit))))) → (Option ((Bool × Unit) × Unit)))) => (fun (x47 : ((WC × (WI × (WI × Unit))) × (Int × (((List Int) × Nat) × (Bool × (Int × Unit)))))) => (lt (((List.length (List.take x47.1.1.2.2.1.2 x47.1.1.2.2.1.1)) : Nat) : Int) fun (x48 : Int) =>
  (lt (Decidable.decide (x47.2.1 < x48)) fun (x49 : Bool) =>
  (if (x49 = Bool.true) then
  (shr (d21_K4 x46) (fun (x50 : (((WC × (WI × (WI × Unit))) × (((List Int) × Nat) × (Bool × I2))) → (Option ((Bool × Unit) × Unit)))) => (if (((Bool.not ((x47.2.2.2.1 == Bool.true) && Bool.true)) || ((Decidable.decide ((0 : Int) ≤ x47.2.1)) && (Decidable.decide (x47.2.1 < (((List.length (List.take x47.2.2.1.2 x47.2.2.1.1)) : Nat) : Int))))) = Bool.true) then
  (lt (List.getD (List.take x47.2.2.1.2 x47.2.2.1.1) (Int.toNat x47.2.1) (0 : Int)) fun (x51 : Int) =>
  (if (((Bool.not ((x47.2.2.2.1 == Bool.true) && Bool.true)) || ((Decidable.decide ((0 : Int) ≤ x47.2.1)) && (Decidable.decide (x47.2.1 < (((List.length (List.take x47.1.1.2.2.1.2 x47.1.1.2.2.1.1)) : Nat) : Int))))) = Bool.true) then
  (lt (List.getD (List.take x47.1.1.2.2.1.2 x47.1.1.2.2.1.1) (Int.toNat x47.2.1) (0 : Int)) fun (x52 : Int) =>
  (lt (x51 == x52) fun (x53 : Bool) =>
  (x50 ((x47.1.1, (x47.1.2.1, (x47.1.2.2.1, ()))), (x47.2.2.1, ((if (x47.2.2.2.1 = Bool.true) then
  x53
  else Bool.false), (x47.2.2.2.2.1, (x47.2.1, ()))))))))
  else (Option.none)))
  else (Option.none))))
  else (x45 ((x47.1.2.1, (x47.1.2.2.1, ())), (x47.2.2.2.1, (x47.2.2.2.2.1, ())))))))))
def d21_L6 (x0 : Nat) (x23 : ((Unit × (Bool × Unit)) → (Option ((Bool × Unit) × Unit)))) : ((((WI × (WI × Unit)) × (Int × (Bool × Unit))) → (Option ((Bool × Unit) × Unit))) → (((WI × (WI × Unit)) × (Int × (Bool × Unit))) → (Option ((Bool × Unit) × Unit)))) :=
  (fun (x24 : (((WI × (WI × Unit)) × (Int × (Bool × Unit))) → (Option ((Bool × Unit) × Unit)))) => (fun (x25 : ((WI × (WI × Unit)) × (Int × (Bool × Unit)))) => (lt (((List.length (List.take x25.1.2.1.2.2.1.2 x25.1.2.1.2.2.1.1)) : Nat) : Int) fun (x26 : Int) =>
  (lt (Decidable.decide (x25.2.1 < x26)) fun (x27 : Bool) =>
  (if (x27 = Bool.true) then
  (shr (d21_K2 x24) (fun (x28 : (((WI × (WI × Unit)) × (Bool × (Int × Unit))) → (Option ((Bool × Unit) × Unit)))) => (if (((Decidable.decide ((0 : Int) ≤ x25.2.1)) && (Decidable.decide (x25.2.1 < (((List.length (List.take x25.1.2.1.2.2.1.2 x25.1.2.1.2.2.1.1)) : Nat) : Int)))) = Bool.true) then
  (lt (List.getD (List.take x25.1.2.1.2.2.1.2 x25.1.2.1.2.2.1.1) (Int.toNat x25.2.1) ((0 : Int), ((0 : Int), ((([] : List Int), (0 : Nat)), ((0 : Int), ((0 : Int), ())))))) fun (x29 : WC) =>
  (if (((Decidable.decide ((0 : Int) ≤ x25.2.1)) && (Decidable.decide (x25.2.1 < (((List.length (List.take x25.1.1.2.2.1.2 x25.1.1.2.2.1.1)) : Nat) : Int)))) = Bool.true) then
  (lt (List.getD (List.take x25.1.1.2.2.1.2 x25.1.1.2.2.1.1) (Int.toNat x25.2.1) ((0 : Int), ((0 : Int), ((([] : List Int), (0 : Nat)), ((0 : Int), ((0 : Int), ())))))) fun (x30 : WC) =>
  (lt (((List.length (List.take x29.2.2.1.2 x29.2.2.1.1)) : Nat) : Int) fun (x31 : Int) =>
  (lt (Go.IntKind.wrap Go.IntKind.i64 (x31 + (1 : Int))) fun (x32 : Int) =>
  (if (((Decidable.decide ((0 : Int) ≤ x32)) && (Decidable.decide ((Int.toNat x32) ≤ (List.length x30.2.2.1.1)))) = Bool.true) then
  (lt (Int.toNat x32) fun (x33 : Nat) =>
  (lt (x30.1 == x29.1) fun (x34 : Bool) =>
  (lt (if (x25.2.2.1 = Bool.true) then
  x34
  else Bool.false) fun (x35 : Bool) =>
  (lt (x30.2.1 == x29.2.1) fun (x36 : Bool) =>
  (lt (if (x35 = Bool.true) then
  x36
  else Bool.false) fun (x37 : Bool) =>
  (lt (x30.2.2.2.1 == x29.2.2.2.1) fun (x38 : Bool) =>
  (lt (if (x37 = Bool.true) then
  x38
  else Bool.false) fun (x39 : Bool) =>
  (lt (x30.2.2.2.2.1 == x29.2.2.2.2.1) fun (x40 : Bool) =>
  (lt (if (x39 = Bool.true) then
  x40
  else Bool.false) fun (x41 : Bool) =>
  (lt (((List.length (List.take x29.2.2.1.2 x29.2.2.1.1)) : Nat) : Int) fun (x42 : Int) =>
  (if (((Bool.not ((x41 == Bool.true) && Bool.true)) || ((Decidable.decide ((0 : Int) ≤ x42)) && (Decidable.decide (x42 < (((List.length (List.take x33 x30.2.2.1.1)) : Nat) : Int))))) = Bool.true) then
  (lt (List.getD (List.take x33 x30.2.2.1.1) (Int.toNat x42) (0 : Int)) fun (x43 : Int) =>
  (lt (x43 == (Neg.neg (77 : Int))) fun (x44 : Bool) =>
  (shr (d21_K3 x28) (fun (x45 : (((WI × (WI × Unit)) × (Bool × (Int × Unit))) → (Option ((Bool × Unit) × Unit)))) => (loopN (d21_L5 x45) x0 ((x29, (x25.1.1, (x25.1.2.1, ()))), ((0 : Int), ((x30.2.2.1.1, x33), ((if (x41 = Bool.true) then
  x44
  else Bool.false), (x25.2.1, ()))))))))))
  else (Option.none))))))))))))
  else (Option.none)))))
  else (Option.none)))
  else (Option.none))))
  else (x23 ((), (x25.2.2.1, ()))))))))
def d21_K7 (x0 : Nat) : (((WI × (WI × Unit)) × (Bool × Unit)) → (Option ((Bool × Unit) × Unit))) :=
  (fun (x22 : ((WI × (WI × Unit)) × (Bool × Unit))) => (shr d21_K1 (fun (x23 : ((Unit × (Bool × Unit)) → (Option ((Bool × Unit) × Unit)))) => (loopN (d21_L6 x0 x23) x0 ((x22.1.1, (x22.1.2.1, ())), ((0 : Int), (x22.2.1, ())))))))
def d21_K8 (x23 : (((WI × (WI × Unit)) × (Int × (Bool × Unit))) → (Option ((Bool × Unit) × Unit)))) : (((WI × (WI × Unit)) × (Bool × (Int × Unit))) → (Option ((Bool × Unit) × Unit))) :=
  (fun (x27 : ((WI × (WI × Unit)) × (Bool × (Int × Unit)))) => (x23 ((x27.1.1, (x27.1.2.1, ())), ((Go.IntKind.wrap Go.IntKind.i64 (x27.2.2.1 + (1 : Int))), (x27.2.1, ())))))
def d21_L9 (x22 : (((WI × (WI × Unit)) × (Bool × Unit)) → (Option ((Bool × Unit) × Unit)))) : ((((WI × (WI × Unit)) × (Int × (Bool × Unit))) → (Option ((Bool × Unit) × Unit))) → (((WI × (WI × Unit)) × (Int × (Bool × Unit))) → (Option ((Bool × Unit) × Unit)))) :=
  (fun (x23 : (((WI × (WI × Unit)) × (Int × (Bool × Unit))) → (Option ((Bool × Unit) × Unit)))) => (fun (x24 : ((WI × (WI × Unit)) × (Int × (Bool × Unit)))) => (lt (((List.length (List.take x24.1.1.2.1.2 x24.1.1.2.1.1)) : Nat) : Int) fun (x25 : Int) =>
  (lt (Decidable.decide (x24.2.1 < x25)) fun (x26 : Bool) =>
  (if (x26 = Bool.true) then
  (shr (d21_K8 x23) (fun (x27 : (((WI × (WI × Unit)) × (Bool × (Int × Unit))) → (Option ((Bool × Unit) × Unit)))) => (if (((Bool.not ((x24.2.2.1 == Bool.true) && Bool.true)) || ((Decidable.decide ((0 : Int) ≤ x24.2.1)) && (Decidable.decide (x24.2.1 < (((List.length (List.take x24.1.2.1.2.1.2 x24.1.2.1.2.1.1)) : Nat) : Int))))) = Bool.true) then
  (lt (List.getD (List.take x24.1.2.1.2.1.2 x24.1.2.1.2.1.1) (Int.toNat x24.2.1) ((0 : Int), ((0 : Int), (Bool.false, ((0 : Int), ((0 : Int), ((0 : Int), ()))))))) fun (x28 : PQ) =>
  (if (((Bool.not ((x24.2.2.1 == Bool.true) && Bool.true)) || ((Decidable.decide ((0 : Int) ≤ x24.2.1)) && (Decidable.decide (x24.2.1 < (((List.length (List.take x24.1.1.2.1.2 x24.1.1.2.1.1)) : Nat) : Int))))) = Bool.true) then
  (lt (List.getD (List.take x24.1.1.2.1.2 x24.1.1.2.1.1) (Int.toNat x24.2.1) ((0 : Int), ((0 : Int), (Bool.false, ((0 : Int), ((0 : Int), ((0 : Int), ()))))))) fun (x29 : PQ) =>
  (lt ((x28.1 == x29.1) && ((x28.2.1 == x29.2.1) && ((x28.2.2.1 == x29.2.2.1) && ((x28.2.2.2.1 == x29.2.2.2.1) && ((x28.2.2.2.2.1 == x29.2.2.2.2.1) && ((x28.2.2.2.2.2.1 == x29.2.2.2.2.2.1) && Bool.true)))))) fun (x30 : Bool) =>
  (x27 ((x24.1.1, (x24.1.2.1, ())), ((if (x24.2.2.1 = Bool.true) then
  x30
  else Bool.false), (x24.2.1, ()))))))
  else (Option.none)))
  else (Option.none))))
  else (x22 ((x24.1.2.1, (x24.1.1, ())), (x24.2.2.1, ()))))))))
def d21_K10 (x0 : Nat) : (((WI × (WI × Unit)) × (Bool × Unit)) → (Option ((Bool × Unit) × Unit))) :=
  (fun (x21 : ((WI × (WI × Unit)) × (Bool × Unit))) => (shr (d21_K7 x0) (fun (x22 : (((WI × (WI × Unit)) × (Bool × Unit)) → (Option ((Bool × Unit) × Unit)))) => (loopN (d21_L9 x22) x0 ((x21.1.1, (x21.1.2.1, ())), ((0 : Int), (x21.2.1, ())))))))
def d21_K11 (x22 : (((WI × (WI × Unit)) × (Int × (Bool × Unit))) → (Option ((Bool × Unit) × Unit)))) : (((WI × (WI × Unit)) × (Bool × (Int × Unit))) → (Option ((Bool × Unit) × Unit))) :=
  (fun (x26 : ((WI × (WI × Unit)) × (Bool × (Int × Unit)))) => (x22 ((x26.1.1, (x26.1.2.1, ())), ((Go.IntKind.wrap Go.IntKind.i64 (x26.2.2.1 + (1 : Int))), (x26.2.1, ())))))
def d21_L12 (x0 : Nat) (x21 : (((WI × (WI × Unit)) × (Bool × Unit)) → (Option ((Bool × Unit) × Unit)))) : ((((WI × (WI × Unit)) × (Int × (Bool × Unit))) → (Option ((Bool × Unit) × Unit))) → (((WI × (WI × Unit)) × (Int × (Bool × Unit))) → (Option ((Bool × Unit) × Unit)))) :=
  (fun (x22 : (((WI × (WI × Unit)) × (Int × (Bool × Unit))) → (Option ((Bool × Unit) × Unit)))) => (fun (x23 : ((WI × (WI × Unit)) × (Int × (Bool × Unit)))) => (lt (((List.length (List.take x23.1.1.1.2 x23.1.1.1.1)) : Nat) : Int) fun (x24 : Int) =>
  (lt (Decidable.decide (x23.2.1 < x24)) fun (x25 : Bool) =>
  (if (x25 = Bool.true) then
  (shr (d21_K11 x22) (fun (x26 : (((WI × (WI × Unit)) × (Bool × (Int × Unit))) → (Option ((Bool × Unit) × Unit)))) => (if (((Bool.not ((x23.2.2.1 == Bool.true) && Bool.true)) || ((Decidable.decide ((0 : Int) ≤ x23.2.1)) && (Decidable.decide (x23.2.1 < (((List.length (List.take x23.1.2.1.1.2 x23.1.2.1.1.1)) : Nat) : Int))))) = Bool.true) then
  (lt (List.getD (List.take x23.1.2.1.1.2 x23.1.2.1.1.1) (Int.toNat x23.2.1) (((0 : Int), ((0 : Int), ((0 : Int), ((0 : Int), ())))), ((0 : Int), ((0 : Int), ((([] : List Int), (0 : Nat)), ((([] : List IS), (0 : Nat)), ((([] : List PC), (0 : Nat)), ((0 : Int), ((List.replicate (8 : Nat) (0 : Int)), ((([] : List I2), (0 : Nat)), ((([] : List Bool), (0 : Nat)), ((([] : List I2), (0 : Nat)), ())))))))))))) fun (x27 : WP) =>
  (if (((Bool.not ((x23.2.2.1 == Bool.true) && Bool.true)) || ((Decidable.decide ((0 : Int) ≤ x23.2.1)) && (Decidable.decide (x23.2.1 < (((List.length (List.take x23.1.1.1.2 x23.1.1.1.1)) : Nat) : Int))))) = Bool.true) then
  (lt (List.getD (List.take x23.1.1.1.2 x23.1.1.1.1) (Int.toNat x23.2.1) (((0 : Int), ((0 : Int), ((0 : Int), ((0 : Int), ())))), ((0 : Int), ((0 : Int), ((([] : List Int), (0 : Nat)), ((([] : List IS), (0 : Nat)), ((([] : List PC), (0 : Nat)), ((0 : Int), ((List.replicate (8 : Nat) (0 : Int)), ((([] : List I2), (0 : Nat)), ((([] : List Bool), (0 : Nat)), ((([] : List I2), (0 : Nat)), ())))))))))))) fun (x28 : WP) =>
  (Option.bind (if (((x23.2.2.1 == Bool.true) && Bool.true) = Bool.true) then
  (d61 x0 (x27, (x28, ())))
  else (Option.some ((Bool.false, ()), ()))) fun (x29 : ((Bool × Unit) × Unit)) =>
  (x26 ((x23.1.1, (x23.1.2.1, ())), ((if (x23.2.2.1 = Bool.true) then
  x29.1.1
  else Bool.false), (x23.2.1, ()))))))
  else (Option.none)))
  else (Option.none))))
  else (x21 ((x23.1.1, (x23.1.2.1, ())), (x23.2.2.1, ()))))))))
def d21 : (Nat → ((WI × (WI × Unit)) → (Option ((Bool × Unit) × Unit)))) :=
  (fun (x0 : Nat) => (fun (x1 : (WI × (WI × Unit))) => (lt (((List.length (List.take x1.2.1.1.2 x1.2.1.1.1)) : Nat) : Int) fun (x2 : Int) =>
  (lt (Go.IntKind.wrap Go.IntKind.i64 (x2 + (1 : Int))) fun (x3 : Int) =>
  (if (((Decidable.decide ((0 : Int) ≤ x3)) && (Decidable.decide ((Int.toNat x3) ≤ (List.length x1.1.1.1)))) = Bool.true) then
  (lt (Int.toNat x3) fun (x4 : Nat) =>
  (lt (((List.length (List.take x1.2.1.1.2 x1.2.1.1.1)) : Nat) : Int) fun (x5 : Int) =>
  (if (((Decidable.decide ((0 : Int) ≤ x5)) && (Decidable.decide (x5 < (((List.length (List.take x4 x1.1.1.1)) : Nat) : Int)))) = Bool.true) then
  (lt (List.getD (List.take x4 x1.1.1.1) (Int.toNat x5) (((0 : Int), ((0 : Int), ((0 : Int), ((0 : Int), ())))), ((0 : Int), ((0 : Int), ((([] : List Int), (0 : Nat)), ((([] : List IS), (0 : Nat)), ((([] : List PC), (0 : Nat)), ((0 : Int), ((List.replicate (8 : Nat) (0 : Int)), ((([] : List I2), (0 : Nat)), ((([] : List Bool), (0 : Nat)), ((([] : List I2), (0 : Nat)), ())))))))))))).2.1 fun (x6 : Int) =>
  (lt (x6 == (Neg.neg (77 : Int))) fun (x7 : Bool) =>
  (lt (((List.length (List.take x1.2.1.2.1.2 x1.2.1.2.1.1)) : Nat) : Int) fun (x8 : Int) =>
  (lt (Go.IntKind.wrap Go.IntKind.i64 (x8 + (1 : Int))) fun (x9 : Int) =>
  (if (((Bool.not ((x7 == Bool.true) && Bool.true)) || ((Decidable.decide ((0 : Int) ≤ x9)) && (Decidable.decide ((Int.toNat x9) ≤ (List.length x1.1.2.1.1))))) = Bool.true) then
  (lt (Int.toNat x9) fun (x10 : Nat) =>
  (lt (((List.length (List.take x1.2.1.2.1.2 x1.2.1.2.1.1)) : Nat) : Int) fun (x11 : Int) =>
  (if (((Bool.not ((x7 == Bool.true) && Bool.true)) || ((Decidable.decide ((0 : Int) ≤ x11)) && (Decidable.decide (x11 < (((List.length (List.take x10 x1.1.2.1.1)) : Nat) : Int))))) = Bool.true) then
  (lt (List.getD (List.take x10 x1.1.2.1.1) (Int.toNat x11) ((0 : Int), ((0 : Int), (Bool.false, ((0 : Int), ((0 : Int), ((0 : Int), ()))))))).1 fun (x12 : Int) =>
  (lt (x12 == (Neg.neg (77 : Int))) fun (x13 : Bool) =>
  (lt (if (x7 = Bool.true) then
  x13
  else Bool.false) fun (x14 : Bool) =>
  (lt (((List.length (List.take x1.2.1.2.2.1.2 x1.2.1.2.2.1.1)) : Nat) : Int) fun (x15 : Int) =>
  (lt (Go.IntKind.wrap Go.IntKind.i64 (x15 + (1 : Int))) fun (x16 : Int) =>
  (if (((Bool.not ((x14 == Bool.true) && Bool.true)) || ((Decidable.decide ((0 : Int) ≤ x16)) && (Decidable.decide ((Int.toNat x16) ≤ (List.length x1.1.2.2.1.1))))) = Bool.true) then
  (lt (Int.toNat x16) fun (x17 : Nat) =>
  (lt (((List.length (List.take x1.2.1.2.2.1.2 x1.2.1.2.2.1.1)) : Nat) : Int) fun (x18 : Int) =>
  (if (((Bool.not ((x14 == Bool.true) && Bool.true)) || ((Decidable.decide ((0 : Int) ≤ x18)) && (Decidable.decide (x18 < (((List.length (List.take x17 x1.1.2.2.1.1)) : Nat) : Int))))) = Bool.true) then
  (lt (List.getD (List.take x17 x1.1.2.2.1.1) (Int.toNat x18) ((0 : Int), ((0 : Int), ((([] : List Int), (0 : Nat)), ((0 : Int), ((0 : Int), ())))))).1 fun (x19 : Int) =>
  (lt (x19 == (Neg.neg (77 : Int))) fun (x20 : Bool) =>
  (shr (d21_K10 x0) (fun (x21 : (((WI × (WI × Unit)) × (Bool × Unit)) → (Option ((Bool × Unit) × Unit)))) => (loopN (d21_L12 x0 x21) x0 ((x1.2.1, (x1.1, ())), ((0 : Int), ((if (x14 = Bool.true) then
  x20
  else Bool.false), ()))))))))
  else (Option.none))))
  else (Option.none)))))))
  else (Option.none))))
  else (Option.none))))))
  else (Option.none))))
  else (Option.none))))))
theorem k21 : c_fn Tryz.prog ⟨[(61, ⟨s61, d61⟩)], ksW⟩ Tryz.f21 s21 h21 = some d21 := by kernel_rfl
/-- bulkhead/bulkheadlaw26.AgeExact -/
def s5 : Sig := ⟨[((.pair (.win (.sl 64 kWP)) (.pair (.win (.sl 41 (.pair (.int .i64) (.pair (.int .i64) (.pair .bool (.pair (.int .i64) kI2)))))) (.pair (.win (.sl 34 (.pair (.int .i64) (.pair (.int .i64) (.pair (.win (.sl 3 (.int .i64))) kI2))))) .unit))), .val), ((.int .i64), .val), ((.int .i64), .val)], [(.bool, .val)]⟩
 def h5 : Hint := (.seq .leaf
   (.seq .leaf
   (.seq (.seq .leaf
   (.cond none
     (.seq .leaf
     .leaf)
     .leaf))
   (.seq (.seq .leaf
   (.block ⟨[((.ptr 26 (.pair (.win (.sl 64 kWP)) (.pair (.win (.sl 41 (.pair (.int .i64) (.pair (.int .i64) (.pair .bool (.pair (.int .i64) kI2)))))) (.pair (.win (.sl 34 (.pair (.int .i64) (.pair (.int .i64) (.pair (.win (.sl 3 (.int .i64))) kI2))))) .unit)))), (.ow (.pr (.ow (.pr .sh (.pr .sh (.pr .sh (.pr (.ow .sh) (.pr (.ow .sh) (.pr (.ow .sh) (.pr .sh (.pr .sh (.pr (.ow .sh) (.pr (.ow .sh) (.pr (.ow .sh) .sh)))))))))))) (.pr (.ow .sh) (.pr (.ow (.pr .sh (.pr .sh (.pr (.ow .sh) .sh)))) .sh)))), (7, 0))], [((7, 0), (.own 0)), ((2, 0), (.val (.int .i64))), ((1, 0), (.val (.int .i64)))]⟩ true
     (.loop ⟨[((.ptr 26 (.pair (.win (.sl 64 kWP)) (.pair (.win (.sl 41 (.pair (.int .i64) (.pair (.int .i64) (.pair .bool (.pair (.int .i64) kI2)))))) (.pair (.win (.sl 34 (.pair (.int .i64) (.pair (.int .i64) (.pair (.win (.sl 3 (.int .i64))) kI2))))) .unit)))), (.ow (.pr (.ow (.pr .sh (.pr .sh (.pr .sh (.pr (.ow .sh) (.pr (.ow .sh) (.pr (.ow .sh) (.pr .sh (.pr .sh (.pr (.ow .sh) (.pr (.ow .sh) (.pr (.ow .sh) .sh)))))))))))) (.pr (.ow .sh) (.pr (.ow (.pr .sh (.pr .sh (.pr (.ow .sh) .sh)))) .sh)))), (7, 0))], [((8, 0), (.val (.int .i64))), ((7, 0), (.own 0)), ((2, 0), (.val (.int .i64))), ((1, 0), (.val (.int .i64)))]⟩
       (.seq (.seq .leaf
       (.cond none
         .leaf
         .leaf))
       (.seq (.block ⟨[((.ptr 26 (.pair (.win (.sl 64 kWP)) (.pair (.win (.sl 41 (.pair (.int .i64) (.pair (.int .i64) (.pair .bool (.pair (.int .i64) kI2)))))) (.pair (.win (.sl 34 (.pair (.int .i64) (.pair (.int .i64) (.pair (.win (.sl 3 (.int .i64))) kI2))))) .unit)))), (.ow (.pr (.ow (.pr .sh (.pr .sh (.pr .sh (.pr (.ow .sh) (.pr (.ow .sh) (.pr (.ow .sh) (.pr .sh (.pr .sh (.pr (.ow .sh) (.pr (.ow .sh) (.pr (.ow .sh) .sh)))))))))))) (.pr (.ow .sh) (.pr (.ow (.pr .sh (.pr .sh (.pr (.ow .sh) .sh)))) .sh)))), (7, 0))], [((7, 0), (.own 0)), ((2, 0), (.val (.int .i64))), ((1, 0), (.val (.int .i64))), ((8, 0), (.val (.int .i64)))]⟩ true
         .leaf)
       .leaf)))))
   (.seq (.seq .leaf
   (.block ⟨[((.ptr 26 (.pair (.win (.sl 64 kWP)) (.pair (.win (.sl 41 (.pair (.int .i64) (.pair (.int .i64) (.pair .bool (.pair (.int .i64) kI2)))))) (.pair (.win (.sl 34 (.pair (.int .i64) (.pair (.int .i64) (.pair (.win (.sl 3 (.int .i64))) kI2))))) .unit)))), (.ow (.pr (.ow (.pr .sh (.pr .sh (.pr .sh (.pr (.ow .sh) (.pr (.ow .sh) (.pr (.ow .sh) (.pr .sh (.pr .sh (.pr (.ow .sh) (.pr (.ow .sh) (.pr (.ow .sh) .sh)))))))))))) (.pr (.ow .sh) (.pr (.ow (.pr .sh (.pr .sh (.pr (.ow .sh) .sh)))) .sh)))), (7, 0))], [((7, 0), (.own 0)), ((2, 0), (.val (.int .i64))), ((1, 0), (.val (.int .i64)))]⟩ true
     (.loop ⟨[((.ptr 26 (.pair (.win (.sl 64 kWP)) (.pair (.win (.sl 41 (.pair (.int .i64) (.pair (.int .i64) (.pair .bool (.pair (.int .i64) kI2)))))) (.pair (.win (.sl 34 (.pair (.int .i64) (.pair (.int .i64) (.pair (.win (.sl 3 (.int .i64))) kI2))))) .unit)))), (.ow (.pr (.ow (.pr .sh (.pr .sh (.pr .sh (.pr (.ow .sh) (.pr (.ow .sh) (.pr (.ow .sh) (.pr .sh (.pr .sh (.pr (.ow .sh) (.pr (.ow .sh) (.pr (.ow .sh) .sh)))))))))))) (.pr (.ow .sh) (.pr (.ow (.pr .sh (.pr .sh (.pr (.ow .sh) .sh)))) .sh)))), (7, 0))], [((9, 0), (.val (.int .i64))), ((7, 0), (.own 0)), ((2, 0), (.val (.int .i64))), ((1, 0), (.val (.int .i64)))]⟩
       (.seq (.seq .leaf
       (.cond none
         .leaf
         .leaf))
       (.seq (.block ⟨[((.ptr 26 (.pair (.win (.sl 64 kWP)) (.pair (.win (.sl 41 (.pair (.int .i64) (.pair (.int .i64) (.pair .bool (.pair (.int .i64) kI2)))))) (.pair (.win (.sl 34 (.pair (.int .i64) (.pair (.int .i64) (.pair (.win (.sl 3 (.int .i64))) kI2))))) .unit)))), (.ow (.pr (.ow (.pr .sh (.pr .sh (.pr .sh (.pr (.ow .sh) (.pr (.ow .sh) (.pr (.ow .sh) (.pr .sh (.pr .sh (.pr (.ow .sh) (.pr (.ow .sh) (.pr (.ow .sh) .sh)))))))))))) (.pr (.ow .sh) (.pr (.ow (.pr .sh (.pr .sh (.pr (.ow .sh) .sh)))) .sh)))), (7, 0))], [((7, 0), (.own 0)), ((2, 0), (.val (.int .i64))), ((1, 0), (.val (.int .i64))), ((9, 0), (.val (.int .i64)))]⟩ true
         .leaf)
       .leaf)))))
   (.seq .leaf
   (.seq .leaf
   .leaf)))))))
def d5_K1 (x0 : Nat) : (((WI × Unit) × I2) → (Option ((Bool × Unit) × Unit))) :=
  (fun (x12 : ((WI × Unit) × I2)) => (Option.bind (d19 x0 (x12.1.1, ())) fun (x13 : ((WI × Unit) × Unit)) =>
  (Option.bind (d20 x0 (((List.map (fun (x14 : WP) => ((x14.1.1, (x14.1.2.1, (x14.1.2.2.1, (x14.1.2.2.2.1, x14.1.2.2.2.2)))), (x14.2.1, (x14.2.2.1, ((List.map (fun (x15 : Int) => x15) (List.take x14.2.2.2.1.2 x14.2.2.2.1.1)), ((List.map (fun (x15 : IS) => (x15.1, (x15.2.1, (x15.2.2.1, (x15.2.2.2.1, (x15.2.2.2.2.1, x15.2.2.2.2.2)))))) (List.take x14.2.2.2.2.1.2 x14.2.2.2.2.1.1)), ((List.map (fun (x15 : PC) => (x15.1, (x15.2.1, (x15.2.2.1, (x15.2.2.2.1, (x15.2.2.2.2.1, (x15.2.2.2.2.2.1, x15.2.2.2.2.2.2))))))) (List.take x14.2.2.2.2.2.1.2 x14.2.2.2.2.2.1.1)), (x14.2.2.2.2.2.2.1, ((List.map (fun (x15 : Int) => x15) x14.2.2.2.2.2.2.2.1), ((List.map (fun (x15 : I2) => (x15.1, (x15.2.1, x15.2.2))) (List.take x14.2.2.2.2.2.2.2.2.1.2 x14.2.2.2.2.2.2.2.2.1.1)), ((List.map (fun (x15 : Bool) => x15) (List.take x14.2.2.2.2.2.2.2.2.2.1.2 x14.2.2.2.2.2.2.2.2.2.1.1)), ((List.map (fun (x15 : I2) => (x15.1, (x15.2.1, x15.2.2))) (List.take x14.2.2.2.2.2.2.2.2.2.2.1.2 x14.2.2.2.2.2.2.2.2.2.2.1.1)), x14.2.2.2.2.2.2.2.2.2.2.2)))))))))))) (List.take x12.1.1.1.2 x12.1.1.1.1)), ((List.map (fun (x14 : PQ) => (x14.1, (x14.2.1, (x14.2.2.1, (x14.2.2.2.1, (x14.2.2.2.2.1, (x14.2.2.2.2.2.1, x14.2.2.2.2.2.2))))))) (List.take x12.1.1.2.1.2 x12.1.1.2.1.1)), ((List.map (fun (x14 : WC) => (x14.1, (x14.2.1, ((List.map (fun (x15 : Int) => x15) (List.take x14.2.2.1.2 x14.2.2.1.1)), (x14.2.2.2.1, (x14.2.2.2.2.1, x14.2.2.2.2.2)))))) (List.take x12.1.1.2.2.1.2 x12.1.1.2.2.1.1)), x12.1.1.2.2.2))), (((List.map (fun (x14 : WP) => ((x14.1.1, (x14.1.2.1, (x14.1.2.2.1, (x14.1.2.2.2.1, x14.1.2.2.2.2)))), (x14.2.1, (x14.2.2.1, ((List.map (fun (x15 : Int) => x15) (List.take x14.2.2.2.1.2 x14.2.2.2.1.1)), ((List.map (fun (x15 : IS) => (x15.1, (x15.2.1, (x15.2.2.1, (x15.2.2.2.1, (x15.2.2.2.2.1, x15.2.2.2.2.2)))))) (List.take x14.2.2.2.2.1.2 x14.2.2.2.2.1.1)), ((List.map (fun (x15 : PC) => (x15.1, (x15.2.1, (x15.2.2.1, (x15.2.2.2.1, (x15.2.2.2.2.1, (x15.2.2.2.2.2.1, x15.2.2.2.2.2.2))))))) (List.take x14.2.2.2.2.2.1.2 x14.2.2.2.2.2.1.1)), (x14.2.2.2.2.2.2.1, ((List.map (fun (x15 : Int) => x15) x14.2.2.2.2.2.2.2.1), ((List.map (fun (x15 : I2) => (x15.1, (x15.2.1, x15.2.2))) (List.take x14.2.2.2.2.2.2.2.2.1.2 x14.2.2.2.2.2.2.2.2.1.1)), ((List.map (fun (x15 : Bool) => x15) (List.take x14.2.2.2.2.2.2.2.2.2.1.2 x14.2.2.2.2.2.2.2.2.2.1.1)), ((List.map (fun (x15 : I2) => (x15.1, (x15.2.1, x15.2.2))) (List.take x14.2.2.2.2.2.2.2.2.2.2.1.2 x14.2.2.2.2.2.2.2.2.2.2.1.1)), x14.2.2.2.2.2.2.2.2.2.2.2)))))))))))) (List.take x13.1.1.1.2 x13.1.1.1.1)), ((List.map (fun (x14 : PQ) => (x14.1, (x14.2.1, (x14.2.2.1, (x14.2.2.2.1, (x14.2.2.2.2.1, (x14.2.2.2.2.2.1, x14.2.2.2.2.2.2))))))) (List.take x13.1.1.2.1.2 x13.1.1.2.1.1)), ((List.map (fun (x14 : WC) => (x14.1, (x14.2.1, ((List.map (fun (x15 : Int) => x15) (List.take x14.2.2.1.2 x14.2.2.1.1)), (x14.2.2.2.1, (x14.2.2.2.2.1, x14.2.2.2.2.2)))))) (List.take x13.1.1.2.2.1.2 x13.1.1.2.2.1.1)), x13.1.1.2.2.2))), (x12.2.2.1, (x12.2.1, ()))))) fun (x14 : ((Bool × Unit) × Unit)) =>
  (Option.bind (if (((x14.1.1 == Bool.true) && Bool.true) = Bool.true) then
  (d21 x0 (x12.1.1, (x13.1.1, ())))
  else (Option.some ((Bool.false, ()), ()))) fun (x15 : ((Bool × Unit) × Unit)) =>
  (Option.some (((if (x14.1.1 = Bool.true) then
  x15.1.1
  else Bool.false), ()), ()))))))
def d5_K2 (x13 : (((WI × Unit) × (Int × I2)) → (Option ((Bool × Unit) × Unit)))) : (((WI × Unit) × (Int × I2)) → (Option ((Bool × Unit) × Unit))) :=
  (fun (x17 : ((WI × Unit) × (Int × I2))) => (x13 ((x17.1.1, ()), ((Go.IntKind.wrap Go.IntKind.i64 (x17.2.2.2.1 + (1 : Int))), (x17.2.1, (x17.2.2.1, ()))))))
def d5_L3 (x12 : (((WI × Unit) × I2) → (Option ((Bool × Unit) × Unit)))) : ((((WI × Unit) × (Int × I2)) → (Option ((Bool × Unit) × Unit))) → (((WI × Unit) × (Int × I2)) → (Option ((Bool × Unit) × Unit)))) :=
  (fun (x13 : (((WI × Unit) × (Int × I2)) → (Option ((Bool × Unit) × Unit)))) => (fun (x14 : ((WI × Unit) × (Int × I2))) => (lt ((x14.1.1.2.2.1.2 : Nat) : Int) fun (x15 : Int) =>
  (lt (Decidable.decide (x14.2.1 < x15)) fun (x16 : Bool) =>
  (if (x16 = Bool.true) then
  (shr (d5_K2 x13) (fun (x17 : (((WI × Unit) × (Int × I2)) → (Option ((Bool × Unit) × Unit)))) => (if (((Decidable.decide ((0 : Int) ≤ x14.2.1)) && (Decidable.decide (x14.2.1 < ((x14.1.1.2.2.1.2 : Nat) : Int)))) = Bool.true) then
  (if (((Decidable.decide ((Int.toNat x14.2.1) < x14.1.1.2.2.1.2)) && ((Decidable.decide ((Int.toNat x14.2.1) < (List.length x14.1.1.2.2.1.1))) && Bool.true)) = Bool.true) then
  (if (((Decidable.decide ((Int.toNat x14.2.1) < x14.1.1.2.2.1.2)) && ((Decidable.decide ((Int.toNat x14.2.1) < (List.length x14.1.1.2.2.1.1))) && Bool.true)) = Bool.true) then
  (lt (List.getD x14.1.1.2.2.1.1 (Int.toNat x14.2.1) ((0 : Int), ((0 : Int), ((([] : List Int), (0 : Nat)), ((0 : Int), ((0 : Int), ())))))).2.2.2.2.1 fun (x18 : Int) =>
  (lt (Go.IntKind.wrap Go.IntKind.i64 (x18 + (1 : Int))) fun (x19 : Int) =>
  (if (((Decidable.decide ((0 : Int) ≤ x14.2.1)) && (Decidable.decide (x14.2.1 < ((x14.1.1.2.2.1.2 : Nat) : Int)))) = Bool.true) then
  (if (((Decidable.decide ((Int.toNat x14.2.1) < x14.1.1.2.2.1.2)) && ((Decidable.decide ((Int.toNat x14.2.1) < (List.length x14.1.1.2.2.1.1))) && Bool.true)) = Bool.true) then
  (if (((Decidable.decide ((Int.toNat x14.2.1) < x14.1.1.2.2.1.2)) && ((Decidable.decide ((Int.toNat x14.2.1) < (List.length x14.1.1.2.2.1.1))) && Bool.true)) = Bool.true) then
  (x17 (((x14.1.1.1, (x14.1.1.2.1, (((List.set x14.1.1.2.2.1.1 (Int.toNat x14.2.1) ((List.getD x14.1.1.2.2.1.1 (Int.toNat x14.2.1) ((0 : Int), ((0 : Int), ((([] : List Int), (0 : Nat)), ((0 : Int), ((0 : Int), ())))))).1, ((List.getD x14.1.1.2.2.1.1 (Int.toNat x14.2.1) ((0 : Int), ((0 : Int), ((([] : List Int), (0 : Nat)), ((0 : Int), ((0 : Int), ())))))).2.1, ((List.getD x14.1.1.2.2.1.1 (Int.toNat x14.2.1) ((0 : Int), ((0 : Int), ((([] : List Int), (0 : Nat)), ((0 : Int), ((0 : Int), ())))))).2.2.1, ((List.getD x14.1.1.2.2.1.1 (Int.toNat x14.2.1) ((0 : Int), ((0 : Int), ((([] : List Int), (0 : Nat)), ((0 : Int), ((0 : Int), ())))))).2.2.2.1, (x19, (List.getD x14.1.1.2.2.1.1 (Int.toNat x14.2.1) ((0 : Int), ((0 : Int), ((([] : List Int), (0 : Nat)), ((0 : Int), ((0 : Int), ())))))).2.2.2.2.2)))))), x14.1.1.2.2.1.2), x14.1.1.2.2.2))), ()), (x14.2.2.1, (x14.2.2.2.1, (x14.2.1, ())))))
  else (Option.none))
  else (Option.none))
  else (Option.none))))
  else (Option.none))
  else (Option.none))
  else (Option.none))))
  else (x12 ((x14.1.1, ()), (x14.2.2.1, (x14.2.2.2.1, ())))))))))
def d5_K4 (x0 : Nat) : (((WI × Unit) × I2) → (Option ((Bool × Unit) × Unit))) :=
  (fun (x11 : ((WI × Unit) × I2)) => (shr (d5_K1 x0) (fun (x12 : (((WI × Unit) × I2) → (Option ((Bool × Unit) × Unit)))) => (loopN (d5_L3 x12) x0 ((x11.1.1, ()), ((0 : Int), (x11.2.1, (x11.2.2.1, ()))))))))
def d5_K5 (x12 : (((WI × Unit) × (Int × I2)) → (Option ((Bool × Unit) × Unit)))) : (((WI × Unit) × (Int × I2)) → (Option ((Bool × Unit) × Unit))) :=
  (fun (x16 : ((WI × Unit) × (Int × I2))) => (x12 ((x16.1.1, ()), ((Go.IntKind.wrap Go.IntKind.i64 (x16.2.2.2.1 + (1 : Int))), (x16.2.1, (x16.2.2.1, ()))))))
def d5_L6 (x11 : (((WI × Unit) × I2) → (Option ((Bool × Unit) × Unit)))) : ((((WI × Unit) × (Int × I2)) → (Option ((Bool × Unit) × Unit))) → (((WI × Unit) × (Int × I2)) → (Option ((Bool × Unit) × Unit)))) :=
  (fun (x12 : (((WI × Unit) × (Int × I2)) → (Option ((Bool × Unit) × Unit)))) => (fun (x13 : ((WI × Unit) × (Int × I2))) => (lt ((x13.1.1.2.1.2 : Nat) : Int) fun (x14 : Int) =>
  (lt (Decidable.decide (x13.2.1 < x14)) fun (x15 : Bool) =>
  (if (x15 = Bool.true) then
  (shr (d5_K5 x12) (fun (x16 : (((WI × Unit) × (Int × I2)) → (Option ((Bool × Unit) × Unit)))) => (if (((Decidable.decide ((0 : Int) ≤ x13.2.1)) && (Decidable.decide (x13.2.1 < ((x13.1.1.2.1.2 : Nat) : Int)))) = Bool.true) then
  (if (((Decidable.decide ((Int.toNat x13.2.1) < x13.1.1.2.1.2)) && ((Decidable.decide ((Int.toNat x13.2.1) < (List.length x13.1.1.2.1.1))) && Bool.true)) = Bool.true) then
  (if (((Decidable.decide ((Int.toNat x13.2.1) < x13.1.1.2.1.2)) && ((Decidable.decide ((Int.toNat x13.2.1) < (List.length x13.1.1.2.1.1))) && Bool.true)) = Bool.true) then
  (lt (List.getD x13.1.1.2.1.1 (Int.toNat x13.2.1) ((0 : Int), ((0 : Int), (Bool.false, ((0 : Int), ((0 : Int), ((0 : Int), ()))))))).2.2.2.2.1 fun (x17 : Int) =>
  (if ((Bool.not ((2 : Int) == (0 : Int))) = Bool.true) then
  (lt (Go.IntKind.wrap Go.IntKind.i64 (Int.tdiv x17 (2 : Int))) fun (x18 : Int) =>
  (lt (Go.IntKind.wrap Go.IntKind.i64 (x18 + (1 : Int))) fun (x19 : Int) =>
  (if (((Decidable.decide ((0 : Int) ≤ x13.2.1)) && (Decidable.decide (x13.2.1 < ((x13.1.1.2.1.2 : Nat) : Int)))) = Bool.true) then
  (if (((Decidable.decide ((Int.toNat x13.2.1) < x13.1.1.2.1.2)) && ((Decidable.decide ((Int.toNat x13.2.1) < (List.length x13.1.1.2.1.1))) && Bool.true)) = Bool.true) then
  (if (((Decidable.decide ((Int.toNat x13.2.1) < x13.1.1.2.1.2)) && ((Decidable.decide ((Int.toNat x13.2.1) < (List.length x13.1.1.2.1.1))) && Bool.true)) = Bool.true) then
  (x16 (((x13.1.1.1, (((List.set x13.1.1.2.1.1 (Int.toNat x13.2.1) ((List.getD x13.1.1.2.1.1 (Int.toNat x13.2.1) ((0 : Int), ((0 : Int), (Bool.false, ((0 : Int), ((0 : Int), ((0 : Int), ()))))))).1, ((List.getD x13.1.1.2.1.1 (Int.toNat x13.2.1) ((0 : Int), ((0 : Int), (Bool.false, ((0 : Int), ((0 : Int), ((0 : Int), ()))))))).2.1, ((List.getD x13.1.1.2.1.1 (Int.toNat x13.2.1) ((0 : Int), ((0 : Int), (Bool.false, ((0 : Int), ((0 : Int), ((0 : Int), ()))))))).2.2.1, ((List.getD x13.1.1.2.1.1 (Int.toNat x13.2.1) ((0 : Int), ((0 : Int), (Bool.false, ((0 : Int), ((0 : Int), ((0 : Int), ()))))))).2.2.2.1, (x19, (List.getD x13.1.1.2.1.1 (Int.toNat x13.2.1) ((0 : Int), ((0 : Int), (Bool.false, ((0 : Int), ((0 : Int), ((0 : Int), ()))))))).2.2.2.2.2)))))), x13.1.1.2.1.2), x13.1.1.2.2)), ()), (x13.2.2.1, (x13.2.2.2.1, (x13.2.1, ())))))
  else (Option.none))
  else (Option.none))
  else (Option.none))))
  else (Option.none)))
  else (Option.none))
  else (Option.none))
  else (Option.none))))
  else (x11 ((x13.1.1, ()), (x13.2.2.1, (x13.2.2.2.1, ())))))))))
def d5 : (Nat → ((WI × I2) → (Option ((Bool × Unit) × Unit)))) :=
  (fun (x0 : Nat) => (fun (x1 : (WI × I2)) => (Option.bind (d19 x0 (x1.1, ())) fun (x2 : ((WI × Unit) × Unit)) =>
  (Option.bind (d15 x0 ()) fun (x3 : ((Bool × Unit) × Unit)) =>
  (lt (Bool.not x3.1.1) fun (x4 : Bool) =>
  (Option.bind (if (((x4 == Bool.false) && Bool.true) = Bool.true) then
  (d20 x0 (((List.map (fun (x5 : WP) => ((x5.1.1, (x5.1.2.1, (x5.1.2.2.1, (x5.1.2.2.2.1, x5.1.2.2.2.2)))), (x5.2.1, (x5.2.2.1, ((List.map (fun (x6 : Int) => x6) (List.take x5.2.2.2.1.2 x5.2.2.2.1.1)), ((List.map (fun (x6 : IS) => (x6.1, (x6.2.1, (x6.2.2.1, (x6.2.2.2.1, (x6.2.2.2.2.1, x6.2.2.2.2.2)))))) (List.take x5.2.2.2.2.1.2 x5.2.2.2.2.1.1)), ((List.map (fun (x6 : PC) => (x6.1, (x6.2.1, (x6.2.2.1, (x6.2.2.2.1, (x6.2.2.2.2.1, (x6.2.2.2.2.2.1, x6.2.2.2.2.2.2))))))) (List.take x5.2.2.2.2.2.1.2 x5.2.2.2.2.2.1.1)), (x5.2.2.2.2.2.2.1, ((List.map (fun (x6 : Int) => x6) x5.2.2.2.2.2.2.2.1), ((List.map (fun (x6 : I2) => (x6.1, (x6.2.1, x6.2.2))) (List.take x5.2.2.2.2.2.2.2.2.1.2 x5.2.2.2.2.2.2.2.2.1.1)), ((List.map (fun (x6 : Bool) => x6) (List.take x5.2.2.2.2.2.2.2.2.2.1.2 x5.2.2.2.2.2.2.2.2.2.1.1)), ((List.map (fun (x6 : I2) => (x6.1, (x6.2.1, x6.2.2))) (List.take x5.2.2.2.2.2.2.2.2.2.2.1.2 x5.2.2.2.2.2.2.2.2.2.2.1.1)), x5.2.2.2.2.2.2.2.2.2.2.2)))))))))))) (List.take x2.1.1.1.2 x2.1.1.1.1)), ((List.map (fun (x5 : PQ) => (x5.1, (x5.2.1, (x5.2.2.1, (x5.2.2.2.1, (x5.2.2.2.2.1, (x5.2.2.2.2.2.1, x5.2.2.2.2.2.2))))))) (List.take x2.1.1.2.1.2 x2.1.1.2.1.1)), ((List.map (fun (x5 : WC) => (x5.1, (x5.2.1, ((List.map (fun (x6 : Int) => x6) (List.take x5.2.2.1.2 x5.2.2.1.1)), (x5.2.2.2.1, (x5.2.2.2.2.1, x5.2.2.2.2.2)))))) (List.take x2.1.1.2.2.1.2 x2.1.1.2.2.1.1)), x2.1.1.2.2.2))), (((List.map (fun (x5 : WP) => ((x5.1.1, (x5.1.2.1, (x5.1.2.2.1, (x5.1.2.2.2.1, x5.1.2.2.2.2)))), (x5.2.1, (x5.2.2.1, ((List.map (fun (x6 : Int) => x6) (List.take x5.2.2.2.1.2 x5.2.2.2.1.1)), ((List.map (fun (x6 : IS) => (x6.1, (x6.2.1, (x6.2.2.1, (x6.2.2.2.1, (x6.2.2.2.2.1, x6.2.2.2.2.2)))))) (List.take x5.2.2.2.2.1.2 x5.2.2.2.2.1.1)), ((List.map (fun (x6 : PC) => (x6.1, (x6.2.1, (x6.2.2.1, (x6.2.2.2.1, (x6.2.2.2.2.1, (x6.2.2.2.2.2.1, x6.2.2.2.2.2.2))))))) (List.take x5.2.2.2.2.2.1.2 x5.2.2.2.2.2.1.1)), (x5.2.2.2.2.2.2.1, ((List.map (fun (x6 : Int) => x6) x5.2.2.2.2.2.2.2.1), ((List.map (fun (x6 : I2) => (x6.1, (x6.2.1, x6.2.2))) (List.take x5.2.2.2.2.2.2.2.2.1.2 x5.2.2.2.2.2.2.2.2.1.1)), ((List.map (fun (x6 : Bool) => x6) (List.take x5.2.2.2.2.2.2.2.2.2.1.2 x5.2.2.2.2.2.2.2.2.2.1.1)), ((List.map (fun (x6 : I2) => (x6.1, (x6.2.1, x6.2.2))) (List.take x5.2.2.2.2.2.2.2.2.2.2.1.2 x5.2.2.2.2.2.2.2.2.2.2.1.1)), x5.2.2.2.2.2.2.2.2.2.2.2)))))))))))) (List.take x1.1.1.2 x1.1.1.1)), ((List.map (fun (x5 : PQ) => (x5.1, (x5.2.1, (x5.2.2.1, (x5.2.2.2.1, (x5.2.2.2.2.1, (x5.2.2.2.2.2.1, x5.2.2.2.2.2.2))))))) (List.take x1.1.2.1.2 x1.1.2.1.1)), ((List.map (fun (x5 : WC) => (x5.1, (x5.2.1, ((List.map (fun (x6 : Int) => x6) (List.take x5.2.2.1.2 x5.2.2.1.1)), (x5.2.2.2.1, (x5.2.2.2.2.1, x5.2.2.2.2.2)))))) (List.take x1.1.2.2.1.2 x1.1.2.2.1.1)), x1.1.2.2.2))), (x1.2.1, (x1.2.2.1, ())))))
  else (Option.some ((Bool.false, ()), ()))) fun (x5 : ((Bool × Unit) × Unit)) =>
  (lt (Bool.not x5.1.1) fun (x6 : Bool) =>
  (lt (if (x4 = Bool.true) then
  Bool.true
  else x6) fun (x7 : Bool) =>
  (Option.bind (if (((x7 == Bool.false) && Bool.true) = Bool.true) then
  (d21 x0 (x2.1.1, (x1.1, ())))
  else (Option.some ((Bool.false, ()), ()))) fun (x8 : ((Bool × Unit) × Unit)) =>
  (lt (Bool.not x8.1.1) fun (x9 : Bool) =>
  (lt (if (x7 = Bool.true) then
  Bool.true
  else x9) fun (x10 : Bool) =>
  (if (x10 = Bool.true) then
  (Option.some ((Bool.false, ()), ()))
  else (shr (d5_K4 x0) (fun (x11 : (((WI × Unit) × I2) → (Option ((Bool × Unit) × Unit)))) => (loopN (d5_L6 x11) x0 ((x2.1.1, ()), ((0 : Int), (x1.2.2.1, (x1.2.1, ())))))))))))))))))))
theorem k5 : c_fn Tryz.prog ⟨[(19, ⟨s19, d19⟩), (15, ⟨s15, d15⟩), (20, ⟨s20, d20⟩), (21, ⟨s21, d21⟩)], ksW⟩ Tryz.f5 s5 h5 = some d5 := by kernel_rfl
end Go.Proofs.YtekgngedamnmaaaGreatDoor.L
