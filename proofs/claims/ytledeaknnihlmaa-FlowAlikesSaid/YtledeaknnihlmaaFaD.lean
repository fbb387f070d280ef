import Derived.Test.YtledeaknnihlmaaFaDa
namespace Go.Proofs.Ytledeaknnihlmaa.L
open Go Go.Lift Go.Proofs
set_option maxRecDepth 100000
set_option linter.unusedVariables false
/-- bulkhead/bulkheadref24.spread -/
def s60 : Sig := ⟨[((.sl 50 (.sl 4 .bool)), .val), ((.int .i64), .val)], [((.sl 4 .bool), (.own (.ow .sh)))]⟩
 def h60 : Hint := (.seq .leaf
   (.seq .leaf
   (.seq .leaf
   (.seq .leaf
   (.seq (.block ⟨[((.sl 4 .bool), (.ow .sh), (5, 0))], [((5, 0), (.own 0))]⟩ true
     (.loop ⟨[((.sl 4 .bool), (.ow .sh), (5, 0))], [((5, 0), (.own 0)), ((0, 0), (.val (.sl 50 (.sl 4 .bool)))), ((6, 0), (.val .bool))]⟩
       (.seq (.seq .leaf
       (.cond none
         .leaf
         .leaf))
       (.block ⟨[((.sl 4 .bool), (.ow .sh), (5, 0))], [((5, 0), (.own 0)), ((0, 0), (.val (.sl 50 (.sl 4 .bool)))), ((6, 0), (.val .bool))]⟩ true
         (.seq .leaf
         (.seq .leaf
         (.block ⟨[((.sl 4 .bool), (.ow .sh), (5, 0))], [((5, 0), (.own 0)), ((0, 0), (.val (.sl 50 (.sl 4 .bool)))), ((6, 0), (.val .bool))]⟩ true
           (.loop ⟨[((.sl 4 .bool), (.ow .sh), (5, 0))], [((5, 0), (.own 0)), ((7, 0), (.val (.int .i64))), ((0, 0), (.val (.sl 50 (.sl 4 .bool)))), ((6, 0), (.val .bool))]⟩
             (.seq (.seq .leaf
             (.cond none
               .leaf
               .leaf))
             (.seq (.block ⟨[((.sl 4 .bool), (.ow .sh), (5, 0))], [((5, 0), (.own 0)), ((0, 0), (.val (.sl 50 (.sl 4 .bool)))), ((6, 0), (.val .bool)), ((7, 0), (.val (.int .i64)))]⟩ true
               (.seq .leaf
               (.block ⟨[((.sl 4 .bool), (.ow .sh), (5, 0))], [((5, 0), (.own 0)), ((0, 0), (.val (.sl 50 (.sl 4 .bool)))), ((6, 0), (.val .bool)), ((7, 0), (.val (.int .i64)))]⟩ true
                 (.loop ⟨[((.sl 4 .bool), (.ow .sh), (5, 0))], [((8, 0), (.val (.int .i64))), ((5, 0), (.own 0)), ((7, 0), (.val (.int .i64))), ((0, 0), (.val (.sl 50 (.sl 4 .bool)))), ((6, 0), (.val .bool))]⟩
                   (.seq (.seq .leaf
                   (.cond none
                     .leaf
                     .leaf))
                   (.seq (.block ⟨[((.sl 4 .bool), (.ow .sh), (5, 0))], [((5, 0), (.own 0)), ((7, 0), (.val (.int .i64))), ((0, 0), (.val (.sl 50 (.sl 4 .bool)))), ((6, 0), (.val .bool)), ((8, 0), (.val (.int .i64)))]⟩ true
                     (.seq .leaf
                     (.cond (some ⟨[((.sl 4 .bool), (.ow .sh), (5, 0))], [((5, 0), (.own 0)), ((7, 0), (.val (.int .i64))), ((0, 0), (.val (.sl 50 (.sl 4 .bool)))), ((6, 0), (.val .bool)), ((8, 0), (.val (.int .i64)))]⟩)
                       (.seq .leaf
                       .leaf)
                       .leaf)))
                   .leaf))))))
             .leaf))))))))))
   (.seq .leaf
   .leaf))))))
def d60_K1  : ((((List Bool) × Unit) × Unit) → (Option (((List Bool) × Unit) × Unit))) :=
  (fun (x4 : (((List Bool) × Unit) × Unit)) => (Option.some ((x4.1.1, ()), ())))
def d60_K2 (x5 : ((((List Bool) × Unit) × ((List (List Bool)) × (Bool × Unit))) → (Option (((List Bool) × Unit) × Unit)))) : ((((List Bool) × Unit) × ((List (List Bool)) × (Bool × Unit))) → (Option (((List Bool) × Unit) × Unit))) :=
  (fun (x7 : (((List Bool) × Unit) × ((List (List Bool)) × (Bool × Unit)))) => (x5 ((x7.1.1, ()), (x7.2.1, (x7.2.2.1, ())))))
def d60_K3 (x7 : ((((List Bool) × Unit) × ((List (List Bool)) × (Bool × Unit))) → (Option (((List Bool) × Unit) × Unit)))) : ((((List Bool) × Unit) × ((List (List Bool)) × (Bool × Unit))) → (Option (((List Bool) × Unit) × Unit))) :=
  (fun (x8 : (((List Bool) × Unit) × ((List (List Bool)) × (Bool × Unit)))) => (x7 ((x8.1.1, ()), (x8.2.1, (x8.2.2.1, ())))))
def d60_K4 (x9 : ((((List Bool) × Unit) × (Int × ((List (List Bool)) × (Bool × Unit)))) → (Option (((List Bool) × Unit) × Unit)))) : ((((List Bool) × Unit) × ((List (List Bool)) × (Bool × (Int × Unit)))) → (Option (((List Bool) × Unit) × Unit))) :=
  (fun (x13 : (((List Bool) × Unit) × ((List (List Bool)) × (Bool × (Int × Unit))))) => (x9 ((x13.1.1, ()), ((Go.IntKind.wrap Go.IntKind.i64 (x13.2.2.2.1 + (1 : Int))), (x13.2.1, (x13.2.2.1, ()))))))
def d60_K5 (x13 : ((((List Bool) × Unit) × ((List (List Bool)) × (Bool × (Int × Unit)))) → (Option (((List Bool) × Unit) × Unit)))) : ((((List Bool) × Unit) × ((List (List Bool)) × (Bool × (Int × Unit)))) → (Option (((List Bool) × Unit) × Unit))) :=
  (fun (x14 : (((List Bool) × Unit) × ((List (List Bool)) × (Bool × (Int × Unit))))) => (x13 ((x14.1.1, ()), (x14.2.1, (x14.2.2.1, (x14.2.2.2.1, ()))))))
def d60_K6 (x15 : ((((List Bool) × Unit) × (Int × (Int × ((List (List Bool)) × (Bool × Unit))))) → (Option (((List Bool) × Unit) × Unit)))) : ((((List Bool) × Unit) × (Int × ((List (List Bool)) × (Bool × (Int × Unit))))) → (Option (((List Bool) × Unit) × Unit))) :=
  (fun (x21 : (((List Bool) × Unit) × (Int × ((List (List Bool)) × (Bool × (Int × Unit)))))) => (x15 ((x21.1.1, ()), ((Go.IntKind.wrap Go.IntKind.i64 (x21.2.2.2.2.1 + (1 : Int))), (x21.2.1, (x21.2.2.1, (x21.2.2.2.1, ())))))))
def d60_K7 (x21 : ((((List Bool) × Unit) × (Int × ((List (List Bool)) × (Bool × (Int × Unit))))) → (Option (((List Bool) × Unit) × Unit)))) : ((((List Bool) × Unit) × (Int × ((List (List Bool)) × (Bool × (Int × Unit))))) → (Option (((List Bool) × Unit) × Unit))) :=
  (fun (x27 : (((List Bool) × Unit) × (Int × ((List (List Bool)) × (Bool × (Int × Unit)))))) => (x21 ((x27.1.1, ()), (x27.2.1, (x27.2.2.1, (x27.2.2.2.1, (x27.2.2.2.2.1, ())))))))
def d60_L8 (x14 : ((((List Bool) × Unit) × ((List (List Bool)) × (Bool × (Int × Unit)))) → (Option (((List Bool) × Unit) × Unit)))) : (((((List Bool) × Unit) × (Int × (Int × ((List (List Bool)) × (Bool × Unit))))) → (Option (((List Bool) × Unit) × Unit))) → ((((List Bool) × Unit) × (Int × (Int × ((List (List Bool)) × (Bool × Unit))))) → (Option (((List Bool) × Unit) × Unit)))) :=
  (fun (x15 : ((((List Bool) × Unit) × (Int × (Int × ((List (List Bool)) × (Bool × Unit))))) → (Option (((List Bool) × Unit) × Unit)))) => (fun (x16 : (((List Bool) × Unit) × (Int × (Int × ((List (List Bool)) × (Bool × Unit)))))) => (lt (((List.length x16.2.2.2.1) : Nat) : Int) fun (x17 : Int) =>
  (lt (Decidable.decide (x16.2.1 < x17)) fun (x18 : Bool) =>
  (if (((Bool.not ((x18 == Bool.true) && Bool.true)) || ((Decidable.decide ((0 : Int) ≤ x16.2.2.1)) && (Decidable.decide (x16.2.2.1 < (((List.length x16.1.1) : Nat) : Int))))) = Bool.true) then
  (if (((Bool.not ((x18 == Bool.true) && Bool.true)) || ((Decidable.decide ((Int.toNat x16.2.2.1) < (List.length x16.1.1))) && Bool.true)) = Bool.true) then
  (lt (List.getD x16.1.1 (Int.toNat x16.2.2.1) Bool.false) fun (x19 : Bool) =>
  (lt (if (x18 = Bool.true) then
  x19
  else Bool.false) fun (x20 : Bool) =>
  (if (x20 = Bool.true) then
  (shr (d60_K6 x15) (fun (x21 : ((((List Bool) × Unit) × (Int × ((List (List Bool)) × (Bool × (Int × Unit))))) → (Option (((List Bool) × Unit) × Unit)))) => (if (((Decidable.decide ((0 : Int) ≤ x16.2.2.1)) && (Decidable.decide (x16.2.2.1 < (((List.length x16.2.2.2.1) : Nat) : Int)))) = Bool.true) then
  (lt (List.getD x16.2.2.2.1 (Int.toNat x16.2.2.1) ([] : List Bool)) fun (x22 : (List Bool)) =>
  (if (((Decidable.decide ((0 : Int) ≤ x16.2.1)) && (Decidable.decide (x16.2.1 < (((List.length x22) : Nat) : Int)))) = Bool.true) then
  (lt (List.getD x22 (Int.toNat x16.2.1) Bool.false) fun (x23 : Bool) =>
  (if (((Bool.not ((x23 == Bool.true) && Bool.true)) || ((Decidable.decide ((0 : Int) ≤ x16.2.1)) && (Decidable.decide (x16.2.1 < (((List.length x16.1.1) : Nat) : Int))))) = Bool.true) then
  (if (((Bool.not ((x23 == Bool.true) && Bool.true)) || ((Decidable.decide ((Int.toNat x16.2.1) < (List.length x16.1.1))) && Bool.true)) = Bool.true) then
  (lt (List.getD x16.1.1 (Int.toNat x16.2.1) Bool.false) fun (x24 : Bool) =>
  (lt (Bool.not x24) fun (x25 : Bool) =>
  (lt (if (x23 = Bool.true) then
  x25
  else Bool.false) fun (x26 : Bool) =>
  (shr (d60_K7 x21) (fun (x27 : ((((List Bool) × Unit) × (Int × ((List (List Bool)) × (Bool × (Int × Unit))))) → (Option (((List Bool) × Unit) × Unit)))) => (if (x26 = Bool.true) then
  (if (((Decidable.decide ((0 : Int) ≤ x16.2.1)) && (Decidable.decide (x16.2.1 < (((List.length x16.1.1) : Nat) : Int)))) = Bool.true) then
  (if (((Decidable.decide ((Int.toNat x16.2.1) < (List.length x16.1.1))) && Bool.true) = Bool.true) then
  (x27 (((List.set x16.1.1 (Int.toNat x16.2.1) Bool.true), ()), (x16.2.2.1, (x16.2.2.2.1, (Bool.true, (x16.2.1, ()))))))
  else (Option.none))
  else (Option.none))
  else (x27 ((x16.1.1, ()), (x16.2.2.1, (x16.2.2.2.1, (x16.2.2.2.2.1, (x16.2.1, ()))))))))))))
  else (Option.none))
  else (Option.none)))
  else (Option.none)))
  else (Option.none))))
  else (x14 ((x16.1.1, ()), (x16.2.2.2.1, (x16.2.2.2.2.1, (x16.2.2.1, ()))))))))
  else (Option.none))
  else (Option.none))))))
def d60_L9 (x0 : Nat) (x8 : ((((List Bool) × Unit) × ((List (List Bool)) × (Bool × Unit))) → (Option (((List Bool) × Unit) × Unit)))) : (((((List Bool) × Unit) × (Int × ((List (List Bool)) × (Bool × Unit)))) → (Option (((List Bool) × Unit) × Unit))) → ((((List Bool) × Unit) × (Int × ((List (List Bool)) × (Bool × Unit)))) → (Option (((List Bool) × Unit) × Unit)))) :=
  (fun (x9 : ((((List Bool) × Unit) × (Int × ((List (List Bool)) × (Bool × Unit)))) → (Option (((List Bool) × Unit) × Unit)))) => (fun (x10 : (((List Bool) × Unit) × (Int × ((List (List Bool)) × (Bool × Unit))))) => (lt (((List.length x10.2.2.1) : Nat) : Int) fun (x11 : Int) =>
  (lt (Decidable.decide (x10.2.1 < x11)) fun (x12 : Bool) =>
  (if (x12 = Bool.true) then
  (shr (d60_K4 x9) (fun (x13 : ((((List Bool) × Unit) × ((List (List Bool)) × (Bool × (Int × Unit)))) → (Option (((List Bool) × Unit) × Unit)))) => (shr (d60_K5 x13) (fun (x14 : ((((List Bool) × Unit) × ((List (List Bool)) × (Bool × (Int × Unit)))) → (Option (((List Bool) × Unit) × Unit)))) => (loopN (d60_L8 x14) x0 ((x10.1.1, ()), ((0 : Int), (x10.2.1, (x10.2.2.1, (x10.2.2.2.1, ()))))))))))
  else (x8 ((x10.1.1, ()), (x10.2.2.1, (x10.2.2.2.1, ())))))))))
def d60_L10 (x0 : Nat) (x4 : ((((List Bool) × Unit) × Unit) → (Option (((List Bool) × Unit) × Unit)))) : (((((List Bool) × Unit) × ((List (List Bool)) × (Bool × Unit))) → (Option (((List Bool) × Unit) × Unit))) → ((((List Bool) × Unit) × ((List (List Bool)) × (Bool × Unit))) → (Option (((List Bool) × Unit) × Unit)))) :=
  (fun (x5 : ((((List Bool) × Unit) × ((List (List Bool)) × (Bool × Unit))) → (Option (((List Bool) × Unit) × Unit)))) => (fun (x6 : (((List Bool) × Unit) × ((List (List Bool)) × (Bool × Unit)))) => (if (x6.2.2.1 = Bool.true) then
  (shr (d60_K2 x5) (fun (x7 : ((((List Bool) × Unit) × ((List (List Bool)) × (Bool × Unit))) → (Option (((List Bool) × Unit) × Unit)))) => (shr (d60_K3 x7) (fun (x8 : ((((List Bool) × Unit) × ((List (List Bool)) × (Bool × Unit))) → (Option (((List Bool) × Unit) × Unit)))) => (loopN (d60_L9 x0 x8) x0 ((x6.1.1, ()), ((0 : Int), (x6.2.1, (Bool.false, ())))))))))
  else (x4 ((x6.1.1, ()), ())))))
def d60 : (Nat → (((List (List Bool)) × (Int × Unit)) → (Option (((List Bool) × Unit) × Unit)))) :=
  (fun (x0 : Nat) => (fun (x1 : ((List (List Bool)) × (Int × Unit))) => (lt (((List.length x1.1) : Nat) : Int) fun (x2 : Int) =>
  (if (((((Decidable.decide ((0 : Int) ≤ x2)) && (Decidable.decide (x2 ≤ x2))) && (Decidable.decide (((((1 : Nat) : Nat) : Int) * x2) ≤ (281474976710656 : Int)))) && (Decidable.decide (x2 ≤ (9223372036854775807 : Int)))) = Bool.true) then
  (lt (List.replicate (Int.toNat x2) Bool.false) fun (x3 : (List Bool)) =>
  (if (((Decidable.decide ((0 : Int) ≤ x1.2.1)) && (Decidable.decide (x1.2.1 < (((List.length x3) : Nat) : Int)))) = Bool.true) then
  (if (((Decidable.decide ((Int.toNat x1.2.1) < (List.length x3))) && Bool.true) = Bool.true) then
  (shr d60_K1 (fun (x4 : ((((List Bool) × Unit) × Unit) → (Option (((List Bool) × Unit) × Unit)))) => (loopN (d60_L10 x0 x4) x0 (((List.set x3 (Int.toNat x1.2.1) Bool.true), ()), (x1.1, (Bool.true, ()))))))
  else (Option.none))
  else (Option.none)))
  else (Option.none)))))
theorem k60 : c_fn Try.prog ⟨[], ks0⟩ Try.f60 s60 h60 = some d60 := by kernel_rfl
/-- bulkhead/bulkheadref24.Reach -/
def s49 : Sig := ⟨[(kIM, .val)], [((.sl 50 (.sl 4 .bool)), (.own (.ow (.ow .sh))))]⟩
 def h49 : Hint := (.seq .leaf
   (.seq .leaf
   (.seq .leaf
   (.seq (.seq .leaf
   (.block ⟨[((.sl 50 (.sl 4 .bool)), (.ow (.ow .sh)), (4, 0))], [((4, 0), (.own 0))]⟩ true
     (.loop ⟨[((.sl 50 (.sl 4 .bool)), (.ow (.ow .sh)), (3, 0)), ((.sl 50 (.sl 4 .bool)), (.ow (.ow .sh)), (4, 0))], [((5, 0), (.val (.int .i64))), ((3, 0), (.own 0)), ((4, 0), (.own 1))]⟩
       (.seq (.seq .leaf
       (.cond none
         .leaf
         .leaf))
       (.seq (.block ⟨[((.sl 50 (.sl 4 .bool)), (.ow (.ow .sh)), (3, 0)), ((.sl 50 (.sl 4 .bool)), (.ow (.ow .sh)), (4, 0))], [((3, 0), (.own 0)), ((4, 0), (.own 1)), ((5, 0), (.val (.int .i64)))]⟩ true
         .leaf)
       .leaf)))))
   (.seq .leaf
   .leaf)))))
def d49_K1  : ((((List (List Bool)) × Unit) × Unit) → (Option (((List (List Bool)) × Unit) × Unit))) :=
  (fun (x3 : (((List (List Bool)) × Unit) × Unit)) => (Option.some ((x3.1.1, ()), ())))
def d49_K2 (x4 : ((((List (List Bool)) × ((List (List Bool)) × Unit)) × (Int × Unit)) → (Option (((List (List Bool)) × Unit) × Unit)))) : ((((List (List Bool)) × ((List (List Bool)) × Unit)) × (Int × Unit)) → (Option (((List (List Bool)) × Unit) × Unit))) :=
  (fun (x8 : (((List (List Bool)) × ((List (List Bool)) × Unit)) × (Int × Unit))) => (x4 ((x8.1.1, (x8.1.2.1, ())), ((Go.IntKind.wrap Go.IntKind.i64 (x8.2.1 + (1 : Int))), ()))))
def d49_L3 (x0 : Nat) (x3 : ((((List (List Bool)) × Unit) × Unit) → (Option (((List (List Bool)) × Unit) × Unit)))) : (((((List (List Bool)) × ((List (List Bool)) × Unit)) × (Int × Unit)) → (Option (((List (List Bool)) × Unit) × Unit))) → ((((List (List Bool)) × ((List (List Bool)) × Unit)) × (Int × Unit)) → (Option (((List (List Bool)) × Unit) × Unit)))) :=
  (fun (x4 : ((((List (List Bool)) × ((List (List Bool)) × Unit)) × (Int × Unit)) → (Option (((List (List Bool)) × Unit) × Unit)))) => (fun (x5 : (((List (List Bool)) × ((List (List Bool)) × Unit)) × (Int × Unit))) => (lt (((List.length x5.1.1) : Nat) : Int) fun (x6 : Int) =>
  (lt (Decidable.decide (x5.2.1 < x6)) fun (x7 : Bool) =>
  (if (x7 = Bool.true) then
  (shr (d49_K2 x4) (fun (x8 : ((((List (List Bool)) × ((List (List Bool)) × Unit)) × (Int × Unit)) → (Option (((List (List Bool)) × Unit) × Unit)))) => (Option.bind (d60 x0 (x5.1.1, (x5.2.1, ()))) fun (x9 : (((List Bool) × Unit) × Unit)) =>
  (lt (x9.1.1 :: ([] : List (List Bool))) fun (x10 : (List (List Bool))) =>
  (if ((Go.Lift.appFits (List.length x5.1.2.1) (List.length x10) (24 : Nat)) = Bool.true) then
  (x8 ((x5.1.1, ((x5.1.2.1 ++ x10), ())), (x5.2.1, ())))
  else (Option.none))))))
  else (x3 ((x5.1.2.1, ()), ())))))))
def d49 : (Nat → ((IM × Unit) → (Option (((List (List Bool)) × Unit) × Unit)))) :=
  (fun (x0 : Nat) => (fun (x1 : (IM × Unit)) => (Option.bind (d59 x0 (x1.1, ())) fun (x2 : (((List (List Bool)) × Unit) × Unit)) =>
  (shr d49_K1 (fun (x3 : ((((List (List Bool)) × Unit) × Unit) → (Option (((List (List Bool)) × Unit) × Unit)))) => (loopN (d49_L3 x0 x3) x0 ((x2.1.1, (([] : List (List Bool)), ())), ((0 : Int), ()))))))))
theorem k49 : c_fn Try.prog ⟨[(59, ⟨s59, d59⟩), (60, ⟨s60, d60⟩)], ks0⟩ Try.f49 s49 h49 = some d49 := by kernel_rfl
/-- bulkhead/bulkheadref24.Sources -/
def s30 : Sig := ⟨[(kIM, .val), ((.int .i64), .val)], [((.sl 3 (.int .i64)), (.own (.ow .sh))), (.bool, .val)]⟩
 def h30 : Hint := (.seq .leaf
   (.seq (.seq .leaf
   (.cond none
     (.seq .leaf
     .leaf)
     .leaf))
   (.seq .leaf
   (.seq .leaf
   (.seq (.seq .leaf
   (.block ⟨[((.sl 3 (.int .i64)), (.ow .sh), (7, 0))], [((7, 0), (.own 0))]⟩ true
     (.loop ⟨[((.sl 3 (.int .i64)), (.ow .sh), (7, 0)), ((.sl 50 (.sl 4 .bool)), (.ow (.ow .sh)), (6, 0))], [((8, 0), (.val (.int .i64))), ((7, 0), (.own 0)), ((1, 0), (.val (.int .i64))), ((6, 0), (.own 1))]⟩
       (.seq (.seq .leaf
       (.cond none
         .leaf
         .leaf))
       (.seq (.block ⟨[((.sl 3 (.int .i64)), (.ow .sh), (7, 0)), ((.sl 50 (.sl 4 .bool)), (.ow (.ow .sh)), (6, 0))], [((7, 0), (.own 0)), ((1, 0), (.val (.int .i64))), ((6, 0), (.own 1)), ((8, 0), (.val (.int .i64)))]⟩ true
         (.seq .leaf
         (.cond (some ⟨[((.sl 3 (.int .i64)), (.ow .sh), (7, 0)), ((.sl 50 (.sl 4 .bool)), (.ow (.ow .sh)), (6, 0))], [((7, 0), (.own 0)), ((1, 0), (.val (.int .i64))), ((6, 0), (.own 1)), ((8, 0), (.val (.int .i64)))]⟩)
           .leaf
           .leaf)))
       .leaf)))))
   (.seq .leaf
   .leaf))))))
def d30_K1  : ((((List Int) × Unit) × Unit) → (Option (((List Int) × (Bool × Unit)) × Unit))) :=
  (fun (x5 : (((List Int) × Unit) × Unit)) => (Option.some ((x5.1.1, (Bool.true, ())), ())))
def d30_K2 (x6 : ((((List Int) × ((List (List Bool)) × Unit)) × I2) → (Option (((List Int) × (Bool × Unit)) × Unit)))) : ((((List Int) × ((List (List Bool)) × Unit)) × I2) → (Option (((List Int) × (Bool × Unit)) × Unit))) :=
  (fun (x10 : (((List Int) × ((List (List Bool)) × Unit)) × I2)) => (x6 ((x10.1.1, (x10.1.2.1, ())), ((Go.IntKind.wrap Go.IntKind.i64 (x10.2.2.1 + (1 : Int))), (x10.2.1, ())))))
def d30_K3 (x10 : ((((List Int) × ((List (List Bool)) × Unit)) × I2) → (Option (((List Int) × (Bool × Unit)) × Unit)))) : ((((List Int) × ((List (List Bool)) × Unit)) × I2) → (Option (((List Int) × (Bool × Unit)) × Unit))) :=
  (fun (x13 : (((List Int) × ((List (List Bool)) × Unit)) × I2)) => (x10 ((x13.1.1, (x13.1.2.1, ())), (x13.2.1, (x13.2.2.1, ())))))
def d30_L4 (x5 : ((((List Int) × Unit) × Unit) → (Option (((List Int) × (Bool × Unit)) × Unit)))) : (((((List Int) × ((List (List Bool)) × Unit)) × I2) → (Option (((List Int) × (Bool × Unit)) × Unit))) → ((((List Int) × ((List (List Bool)) × Unit)) × I2) → (Option (((List Int) × (Bool × Unit)) × Unit)))) :=
  (fun (x6 : ((((List Int) × ((List (List Bool)) × Unit)) × I2) → (Option (((List Int) × (Bool × Unit)) × Unit)))) => (fun (x7 : (((List Int) × ((List (List Bool)) × Unit)) × I2)) => (lt (((List.length x7.1.2.1) : Nat) : Int) fun (x8 : Int) =>
  (lt (Decidable.decide (x7.2.1 < x8)) fun (x9 : Bool) =>
  (if (x9 = Bool.true) then
  (shr (d30_K2 x6) (fun (x10 : ((((List Int) × ((List (List Bool)) × Unit)) × I2) → (Option (((List Int) × (Bool × Unit)) × Unit)))) => (if (((Decidable.decide ((0 : Int) ≤ x7.2.1)) && (Decidable.decide (x7.2.1 < (((List.length x7.1.2.1) : Nat) : Int)))) = Bool.true) then
  (if (((Decidable.decide ((Int.toNat x7.2.1) < (List.length x7.1.2.1))) && Bool.true) = Bool.true) then
  (lt (Go.IntKind.wrap Go.IntKind.i64 (x7.2.2.1 - (1 : Int))) fun (x11 : Int) =>
  (if ((((Decidable.decide ((Int.toNat x7.2.1) < (List.length x7.1.2.1))) && Bool.true) && ((Decidable.decide ((0 : Int) ≤ x11)) && (Decidable.decide (x11 < (((List.length (List.getD x7.1.2.1 (Int.toNat x7.2.1) ([] : List Bool))) : Nat) : Int))))) = Bool.true) then
  (if (((Decidable.decide ((Int.toNat x7.2.1) < (List.length x7.1.2.1))) && ((Decidable.decide ((Int.toNat x11) < (List.length (List.getD x7.1.2.1 (Int.toNat x7.2.1) ([] : List Bool))))) && Bool.true)) = Bool.true) then
  (lt (List.getD (List.getD x7.1.2.1 (Int.toNat x7.2.1) ([] : List Bool)) (Int.toNat x11) Bool.false) fun (x12 : Bool) =>
  (shr (d30_K3 x10) (fun (x13 : ((((List Int) × ((List (List Bool)) × Unit)) × I2) → (Option (((List Int) × (Bool × Unit)) × Unit)))) => (if (x12 = Bool.true) then
  (lt (Go.IntKind.wrap Go.IntKind.i64 (x7.2.1 + (1 : Int))) fun (x14 : Int) =>
  (lt (x14 :: ([] : List Int)) fun (x15 : (List Int)) =>
  (if ((Go.Lift.appFits (List.length x7.1.1) (List.length x15) (8 : Nat)) = Bool.true) then
  (x13 (((x7.1.1 ++ x15), (x7.1.2.1, ())), (x7.2.2.1, (x7.2.1, ()))))
  else (Option.none))))
  else (x13 ((x7.1.1, (x7.1.2.1, ())), (x7.2.2.1, (x7.2.1, ()))))))))
  else (Option.none))
  else (Option.none)))
  else (Option.none))
  else (Option.none))))
  else (x5 ((x7.1.1, ()), ())))))))
def d30 : (Nat → ((IM × (Int × Unit)) → (Option (((List Int) × (Bool × Unit)) × Unit)))) :=
  (fun (x0 : Nat) => (fun (x1 : (IM × (Int × Unit))) => (Option.bind (d48 x0 (x1.1, (x1.2.1, ()))) fun (x2 : ((Bool × Unit) × Unit)) =>
  (lt (Bool.not x2.1.1) fun (x3 : Bool) =>
  (if (x3 = Bool.true) then
  (Option.some ((([] : List Int), (Bool.false, ())), ()))
  else (Option.bind (d49 x0 (x1.1, ())) fun (x4 : (((List (List Bool)) × Unit) × Unit)) =>
  (shr d30_K1 (fun (x5 : ((((List Int) × Unit) × Unit) → (Option (((List Int) × (Bool × Unit)) × Unit)))) => (loopN (d30_L4 x5) x0 ((([] : List Int), (x4.1.1, ())), ((0 : Int), (x1.2.1, ()))))))))))))
theorem k30 : c_fn Try.prog ⟨[(48, ⟨s48, d48⟩), (49, ⟨s49, d49⟩)], ks0⟩ Try.f30 s30 h30 = some d30 := by kernel_rfl
/-- bulkhead/bulkheadref24.sameWords -/
def s33 : Sig := ⟨[((.sl 2 (.int .i64)), .val), ((.sl 2 (.int .i64)), .val)], [(.bool, .val)]⟩
 def h33 : Hint := (.seq .leaf
   (.seq (.seq .leaf
   (.cond none
     (.seq .leaf
     .leaf)
     .leaf))
   (.seq (.seq .leaf
   (.block ⟨[], []⟩ true
     (.loop ⟨[], [((5, 0), (.val (.int .i64))), ((1, 0), (.val (.sl 2 (.int .i64)))), ((0, 0), (.val (.sl 2 (.int .i64))))]⟩
       (.seq (.seq .leaf
       (.cond none
         .leaf
         .leaf))
       (.seq (.block ⟨[], [((1, 0), (.val (.sl 2 (.int .i64)))), ((0, 0), (.val (.sl 2 (.int .i64)))), ((5, 0), (.val (.int .i64)))]⟩ true
         (.seq .leaf
         (.cond none
           (.seq .leaf
           .leaf)
           .leaf)))
       .leaf)))))
   (.seq .leaf
   .leaf))))
def d33_K1 (x6 : ((Unit × (Int × ((List Int) × ((List Int) × Unit)))) → (Option ((Bool × Unit) × Unit)))) : ((Unit × ((List Int) × ((List Int) × (Int × Unit)))) → (Option ((Bool × Unit) × Unit))) :=
  (fun (x10 : (Unit × ((List Int) × ((List Int) × (Int × Unit))))) => (x6 ((), ((Go.IntKind.wrap Go.IntKind.i64 (x10.2.2.2.1 + (1 : Int))), (x10.2.1, (x10.2.2.1, ()))))))
def d33_L2 (x5 : ((Unit × Unit) → (Option ((Bool × Unit) × Unit)))) : (((Unit × (Int × ((List Int) × ((List Int) × Unit)))) → (Option ((Bool × Unit) × Unit))) → ((Unit × (Int × ((List Int) × ((List Int) × Unit)))) → (Option ((Bool × Unit) × Unit)))) :=
  (fun (x6 : ((Unit × (Int × ((List Int) × ((List Int) × Unit)))) → (Option ((Bool × Unit) × Unit)))) => (fun (x7 : (Unit × (Int × ((List Int) × ((List Int) × Unit))))) => (lt (((List.length x7.2.2.2.1) : Nat) : Int) fun (x8 : Int) =>
  (lt (Decidable.decide (x7.2.1 < x8)) fun (x9 : Bool) =>
  (if (x9 = Bool.true) then
  (shr (d33_K1 x6) (fun (x10 : ((Unit × ((List Int) × ((List Int) × (Int × Unit)))) → (Option ((Bool × Unit) × Unit)))) => (if (((Decidable.decide ((0 : Int) ≤ x7.2.1)) && (Decidable.decide (x7.2.1 < (((List.length x7.2.2.2.1) : Nat) : Int)))) = Bool.true) then
  (lt (List.getD x7.2.2.2.1 (Int.toNat x7.2.1) (0 : Int)) fun (x11 : Int) =>
  (if (((Decidable.decide ((0 : Int) ≤ x7.2.1)) && (Decidable.decide (x7.2.1 < (((List.length x7.2.2.1) : Nat) : Int)))) = Bool.true) then
  (lt (List.getD x7.2.2.1 (Int.toNat x7.2.1) (0 : Int)) fun (x12 : Int) =>
  (lt (x11 != x12) fun (x13 : Bool) =>
  (if (x13 = Bool.true) then
  (Option.some ((Bool.false, ()), ()))
  else (x10 ((), (x7.2.2.1, (x7.2.2.2.1, (x7.2.1, ()))))))))
  else (Option.none)))
  else (Option.none))))
  else (x5 ((), ())))))))
def d33 : (Nat → (((List Int) × ((List Int) × Unit)) → (Option ((Bool × Unit) × Unit)))) :=
  (fun (x0 : Nat) => (fun (x1 : ((List Int) × ((List Int) × Unit))) => (lt (((List.length x1.1) : Nat) : Int) fun (x2 : Int) =>
  (lt (((List.length x1.2.1) : Nat) : Int) fun (x3 : Int) =>
  (lt (x2 != x3) fun (x4 : Bool) =>
  (if (x4 = Bool.true) then
  (Option.some ((Bool.false, ()), ()))
  else (shr (fun (x5 : (Unit × Unit)) => (Option.some ((Bool.true, ()), ()))) (fun (x5 : ((Unit × Unit) → (Option ((Bool × Unit) × Unit)))) => (loopN (d33_L2 x5) x0 ((), ((0 : Int), (x1.2.1, (x1.1, ())))))))))))))
theorem k33 : c_fn Try.prog ⟨[], ks0⟩ Try.f33 s33 h33 = some d33 := by kernel_rfl
/-- bulkhead/bulkheadref24.samePlain -/
def s50 : Sig := ⟨[(kPA, .val), (kPA, .val)], [(.bool, .val)]⟩
 def h50 : Hint := (.seq .leaf
   (.seq (.seq .leaf
   (.cond none
     (.seq .leaf
     .leaf)
     .leaf))
   (.seq (.seq .leaf
   (.block ⟨[((.ptr 53 kPA), (.ow .sh), (3, 0)), ((.ptr 53 kPA), (.ow .sh), (2, 0))], [((3, 0), (.own 0)), ((2, 0), (.own 1))]⟩ true
     (.loop ⟨[((.ptr 53 kPA), (.ow .sh), (3, 0)), ((.ptr 53 kPA), (.ow .sh), (2, 0))], [((5, 0), (.val (.int .i64))), ((3, 0), (.own 0)), ((2, 0), (.own 1))]⟩
       (.seq (.seq .leaf
       (.cond none
         .leaf
         .leaf))
       (.seq (.block ⟨[((.ptr 53 kPA), (.ow .sh), (3, 0)), ((.ptr 53 kPA), (.ow .sh), (2, 0))], [((3, 0), (.own 0)), ((2, 0), (.own 1)), ((5, 0), (.val (.int .i64)))]⟩ true
         (.seq .leaf
         (.cond none
           (.seq .leaf
           .leaf)
           .leaf)))
       .leaf)))))
   (.seq (.seq .leaf
   (.block ⟨[], []⟩ true
     (.loop ⟨[((.ptr 53 kPA), (.ow .sh), (3, 0)), ((.ptr 53 kPA), (.ow .sh), (2, 0))], [((6, 0), (.val (.int .i64))), ((3, 0), (.own 0)), ((2, 0), (.own 1))]⟩
       (.seq (.seq .leaf
       (.cond none
         .leaf
         .leaf))
       (.seq (.block ⟨[((.ptr 53 kPA), (.ow .sh), (3, 0)), ((.ptr 53 kPA), (.ow .sh), (2, 0))], [((3, 0), (.own 0)), ((2, 0), (.own 1)), ((6, 0), (.val (.int .i64)))]⟩ true
         (.seq .leaf
         (.cond none
           (.seq .leaf
           .leaf)
           .leaf)))
       .leaf)))))
   (.seq .leaf
   .leaf)))))
def d50_K1 (x11 : (((PA × (PA × Unit)) × (Int × Unit)) → (Option ((Bool × Unit) × Unit)))) : (((PA × (PA × Unit)) × (Int × Unit)) → (Option ((Bool × Unit) × Unit))) :=
  (fun (x15 : ((PA × (PA × Unit)) × (Int × Unit))) => (x11 ((x15.1.1, (x15.1.2.1, ())), ((Go.IntKind.wrap Go.IntKind.i64 (x15.2.1 + (1 : Int))), ()))))
def d50_L2 (x10 : ((Unit × Unit) → (Option ((Bool × Unit) × Unit)))) : ((((PA × (PA × Unit)) × (Int × Unit)) → (Option ((Bool × Unit) × Unit))) → (((PA × (PA × Unit)) × (Int × Unit)) → (Option ((Bool × Unit) × Unit)))) :=
  (fun (x11 : (((PA × (PA × Unit)) × (Int × Unit)) → (Option ((Bool × Unit) × Unit)))) => (fun (x12 : ((PA × (PA × Unit)) × (Int × Unit))) => (lt (((List.length x12.1.2.1.2.2.2.2.2.1) : Nat) : Int) fun (x13 : Int) =>
  (lt (Decidable.decide (x12.2.1 < x13)) fun (x14 : Bool) =>
  (if (x14 = Bool.true) then
  (shr (d50_K1 x11) (fun (x15 : (((PA × (PA × Unit)) × (Int × Unit)) → (Option ((Bool × Unit) × Unit)))) => (if (((Decidable.decide ((0 : Int) ≤ x12.2.1)) && (Decidable.decide (x12.2.1 < (((List.length x12.1.2.1.2.2.2.2.2.1) : Nat) : Int)))) = Bool.true) then
  (lt (List.getD x12.1.2.1.2.2.2.2.2.1 (Int.toNat x12.2.1) ((0 : Int), ((0 : Int), ((0 : Int), ((0 : Int), ((0 : Int), (Bool.false, ()))))))) fun (x16 : PC) =>
  (if (((Decidable.decide ((0 : Int) ≤ x12.2.1)) && (Decidable.decide (x12.2.1 < (((List.length x12.1.1.2.2.2.2.2.1) : Nat) : Int)))) = Bool.true) then
  (lt (List.getD x12.1.1.2.2.2.2.2.1 (Int.toNat x12.2.1) ((0 : Int), ((0 : Int), ((0 : Int), ((0 : Int), ((0 : Int), (Bool.false, ()))))))) fun (x17 : PC) =>
  (lt (Bool.not ((x16.1 == x17.1) && ((x16.2.1 == x17.2.1) && ((x16.2.2.1 == x17.2.2.1) && ((x16.2.2.2.1 == x17.2.2.2.1) && ((x16.2.2.2.2.1 == x17.2.2.2.2.1) && ((x16.2.2.2.2.2.1 == x17.2.2.2.2.2.1) && Bool.true))))))) fun (x18 : Bool) =>
  (if (x18 = Bool.true) then
  (Option.some ((Bool.false, ()), ()))
  else (x15 ((x12.1.1, (x12.1.2.1, ())), (x12.2.1, ()))))))
  else (Option.none)))
  else (Option.none))))
  else (x10 ((), ())))))))
def d50_K3 (x0 : Nat) : (((PA × (PA × Unit)) × Unit) → (Option ((Bool × Unit) × Unit))) :=
  (fun (x9 : ((PA × (PA × Unit)) × Unit)) => (shr (fun (x10 : (Unit × Unit)) => (Option.some ((Bool.true, ()), ()))) (fun (x10 : ((Unit × Unit) → (Option ((Bool × Unit) × Unit)))) => (loopN (d50_L2 x10) x0 ((x9.1.1, (x9.1.2.1, ())), ((0 : Int), ()))))))
def d50_K4 (x10 : (((PA × (PA × Unit)) × (Int × Unit)) → (Option ((Bool × Unit) × Unit)))) : (((PA × (PA × Unit)) × (Int × Unit)) → (Option ((Bool × Unit) × Unit))) :=
  (fun (x14 : ((PA × (PA × Unit)) × (Int × Unit))) => (x10 ((x14.1.1, (x14.1.2.1, ())), ((Go.IntKind.wrap Go.IntKind.i64 (x14.2.1 + (1 : Int))), ()))))
def d50_L5 (x9 : (((PA × (PA × Unit)) × Unit) → (Option ((Bool × Unit) × Unit)))) : ((((PA × (PA × Unit)) × (Int × Unit)) → (Option ((Bool × Unit) × Unit))) → (((PA × (PA × Unit)) × (Int × Unit)) → (Option ((Bool × Unit) × Unit)))) :=
  (fun (x10 : (((PA × (PA × Unit)) × (Int × Unit)) → (Option ((Bool × Unit) × Unit)))) => (fun (x11 : ((PA × (PA × Unit)) × (Int × Unit))) => (lt (((List.length x11.1.2.1.2.2.2.2.1) : Nat) : Int) fun (x12 : Int) =>
  (lt (Decidable.decide (x11.2.1 < x12)) fun (x13 : Bool) =>
  (if (x13 = Bool.true) then
  (shr (d50_K4 x10) (fun (x14 : (((PA × (PA × Unit)) × (Int × Unit)) → (Option ((Bool × Unit) × Unit)))) => (if (((Decidable.decide ((0 : Int) ≤ x11.2.1)) && (Decidable.decide (x11.2.1 < (((List.length x11.1.2.1.2.2.2.2.1) : Nat) : Int)))) = Bool.true) then
  (lt (List.getD x11.1.2.1.2.2.2.2.1 (Int.toNat x11.2.1) ((0 : Int), ((0 : Int), ((0 : Int), ((0 : Int), ((0 : Int), ())))))) fun (x15 : IS) =>
  (if (((Decidable.decide ((0 : Int) ≤ x11.2.1)) && (Decidable.decide (x11.2.1 < (((List.length x11.1.1.2.2.2.2.1) : Nat) : Int)))) = Bool.true) then
  (lt (List.getD x11.1.1.2.2.2.2.1 (Int.toNat x11.2.1) ((0 : Int), ((0 : Int), ((0 : Int), ((0 : Int), ((0 : Int), ())))))) fun (x16 : IS) =>
  (lt (Bool.not ((x15.1 == x16.1) && ((x15.2.1 == x16.2.1) && ((x15.2.2.1 == x16.2.2.1) && ((x15.2.2.2.1 == x16.2.2.2.1) && ((x15.2.2.2.2.1 == x16.2.2.2.2.1) && Bool.true)))))) fun (x17 : Bool) =>
  (if (x17 = Bool.true) then
  (Option.some ((Bool.false, ()), ()))
  else (x14 ((x11.1.1, (x11.1.2.1, ())), (x11.2.1, ()))))))
  else (Option.none)))
  else (Option.none))))
  else (x9 ((x11.1.1, (x11.1.2.1, ())), ())))))))
def d50 : (Nat → ((PA × (PA × Unit)) → (Option ((Bool × Unit) × Unit)))) :=
  (fun (x0 : Nat) => (fun (x1 : (PA × (PA × Unit))) => (lt (((List.length x1.1.2.2.2.2.1) : Nat) : Int) fun (x2 : Int) =>
  (lt (((List.length x1.2.1.2.2.2.2.1) : Nat) : Int) fun (x3 : Int) =>
  (lt (x2 != x3) fun (x4 : Bool) =>
  (lt (((List.length x1.1.2.2.2.2.2.1) : Nat) : Int) fun (x5 : Int) =>
  (lt (((List.length x1.2.1.2.2.2.2.2.1) : Nat) : Int) fun (x6 : Int) =>
  (lt (x5 != x6) fun (x7 : Bool) =>
  (lt (if (x4 = Bool.true) then
  Bool.true
  else x7) fun (x8 : Bool) =>
  (if (x8 = Bool.true) then
  (Option.some ((Bool.false, ()), ()))
  else (shr (d50_K3 x0) (fun (x9 : (((PA × (PA × Unit)) × Unit) → (Option ((Bool × Unit) × Unit)))) => (loopN (d50_L5 x9) x0 ((x1.2.1, (x1.1, ())), ((0 : Int), ())))))))))))))))
theorem k50 : c_fn Try.prog ⟨[], ks0⟩ Try.f50 s50 h50 = some d50 := by kernel_rfl
/-- bulkhead/bulkheadref24.sameObjects -/
def s51 : Sig := ⟨[(kPA, .val), (kPA, .val)], [(.bool, .val)]⟩
 def h51 : Hint := (.seq .leaf
   (.seq (.seq .leaf
   (.cond none
     (.seq .leaf
     .leaf)
     .leaf))
   (.seq (.seq .leaf
   (.block ⟨[((.ptr 53 kPA), (.ow .sh), (3, 0)), ((.ptr 53 kPA), (.ow .sh), (2, 0))], [((3, 0), (.own 0)), ((2, 0), (.own 1))]⟩ true
     (.loop ⟨[((.ptr 53 kPA), (.ow .sh), (3, 0)), ((.ptr 53 kPA), (.ow .sh), (2, 0))], [((5, 0), (.val (.int .i64))), ((3, 0), (.own 0)), ((2, 0), (.own 1))]⟩
       (.seq (.seq .leaf
       (.cond none
         .leaf
         .leaf))
       (.seq (.block ⟨[((.ptr 53 kPA), (.ow .sh), (3, 0)), ((.ptr 53 kPA), (.ow .sh), (2, 0))], [((3, 0), (.own 0)), ((2, 0), (.own 1)), ((5, 0), (.val (.int .i64)))]⟩ true
         (.seq .leaf
         (.cond none
           (.seq .leaf
           .leaf)
           .leaf)))
       .leaf)))))
   (.seq (.seq .leaf
   (.block ⟨[((.ptr 53 kPA), (.ow .sh), (3, 0)), ((.ptr 53 kPA), (.ow .sh), (2, 0))], [((3, 0), (.own 0)), ((2, 0), (.own 1))]⟩ true
     (.loop ⟨[((.ptr 53 kPA), (.ow .sh), (3, 0)), ((.ptr 53 kPA), (.ow .sh), (2, 0))], [((6, 0), (.val (.int .i64))), ((3, 0), (.own 0)), ((2, 0), (.own 1))]⟩
       (.seq (.seq .leaf
       (.cond none
         .leaf
         .leaf))
       (.seq (.block ⟨[((.ptr 53 kPA), (.ow .sh), (3, 0)), ((.ptr 53 kPA), (.ow .sh), (2, 0))], [((3, 0), (.own 0)), ((2, 0), (.own 1)), ((6, 0), (.val (.int .i64)))]⟩ true
         (.seq .leaf
         (.cond none
           (.seq .leaf
           .leaf)
           .leaf)))
       .leaf)))))
   (.seq (.seq .leaf
   (.block ⟨[], []⟩ true
     (.loop ⟨[((.ptr 53 kPA), (.ow .sh), (3, 0)), ((.ptr 53 kPA), (.ow .sh), (2, 0))], [((7, 0), (.val (.int .i64))), ((3, 0), (.own 0)), ((2, 0), (.own 1))]⟩
       (.seq (.seq .leaf
       (.cond none
         .leaf
         .leaf))
       (.seq (.block ⟨[((.ptr 53 kPA), (.ow .sh), (3, 0)), ((.ptr 53 kPA), (.ow .sh), (2, 0))], [((3, 0), (.own 0)), ((2, 0), (.own 1)), ((7, 0), (.val (.int .i64)))]⟩ true
         (.seq .leaf
         (.cond none
           (.seq .leaf
           .leaf)
           .leaf)))
       .leaf)))))
   (.seq .leaf
   .leaf))))))
def d51_K1 (x16 : (((PA × (PA × Unit)) × (Int × Unit)) → (Option ((Bool × Unit) × Unit)))) : (((PA × (PA × Unit)) × (Int × Unit)) → (Option ((Bool × Unit) × Unit))) :=
  (fun (x20 : ((PA × (PA × Unit)) × (Int × Unit))) => (x16 ((x20.1.1, (x20.1.2.1, ())), ((Go.IntKind.wrap Go.IntKind.i64 (x20.2.1 + (1 : Int))), ()))))
def d51_L2 (x15 : ((Unit × Unit) → (Option ((Bool × Unit) × Unit)))) : ((((PA × (PA × Unit)) × (Int × Unit)) → (Option ((Bool × Unit) × Unit))) → (((PA × (PA × Unit)) × (Int × Unit)) → (Option ((Bool × Unit) × Unit)))) :=
  (fun (x16 : (((PA × (PA × Unit)) × (Int × Unit)) → (Option ((Bool × Unit) × Unit)))) => (fun (x17 : ((PA × (PA × Unit)) × (Int × Unit))) => (lt (((List.length x17.1.2.1.2.2.2.2.2.2.2.2.2.2.1) : Nat) : Int) fun (x18 : Int) =>
  (lt (Decidable.decide (x17.2.1 < x18)) fun (x19 : Bool) =>
  (if (x19 = Bool.true) then
  (shr (d51_K1 x16) (fun (x20 : (((PA × (PA × Unit)) × (Int × Unit)) → (Option ((Bool × Unit) × Unit)))) => (if (((Decidable.decide ((0 : Int) ≤ x17.2.1)) && (Decidable.decide (x17.2.1 < (((List.length x17.1.2.1.2.2.2.2.2.2.2.2.2.2.1) : Nat) : Int)))) = Bool.true) then
  (lt (List.getD x17.1.2.1.2.2.2.2.2.2.2.2.2.2.1 (Int.toNat x17.2.1) ((0 : Int), ((0 : Int), ()))) fun (x21 : I2) =>
  (if (((Decidable.decide ((0 : Int) ≤ x17.2.1)) && (Decidable.decide (x17.2.1 < (((List.length x17.1.1.2.2.2.2.2.2.2.2.2.2.1) : Nat) : Int)))) = Bool.true) then
  (lt (List.getD x17.1.1.2.2.2.2.2.2.2.2.2.2.1 (Int.toNat x17.2.1) ((0 : Int), ((0 : Int), ()))) fun (x22 : I2) =>
  (lt (Bool.not ((x21.1 == x22.1) && ((x21.2.1 == x22.2.1) && Bool.true))) fun (x23 : Bool) =>
  (if (x23 = Bool.true) then
  (Option.some ((Bool.false, ()), ()))
  else (x20 ((x17.1.1, (x17.1.2.1, ())), (x17.2.1, ()))))))
  else (Option.none)))
  else (Option.none))))
  else (x15 ((), ())))))))
def d51_K3 (x0 : Nat) : (((PA × (PA × Unit)) × Unit) → (Option ((Bool × Unit) × Unit))) :=
  (fun (x14 : ((PA × (PA × Unit)) × Unit)) => (shr (fun (x15 : (Unit × Unit)) => (Option.some ((Bool.true, ()), ()))) (fun (x15 : ((Unit × Unit) → (Option ((Bool × Unit) × Unit)))) => (loopN (d51_L2 x15) x0 ((x14.1.1, (x14.1.2.1, ())), ((0 : Int), ()))))))
def d51_K4 (x15 : (((PA × (PA × Unit)) × (Int × Unit)) → (Option ((Bool × Unit) × Unit)))) : (((PA × (PA × Unit)) × (Int × Unit)) → (Option ((Bool × Unit) × Unit))) :=
  (fun (x19 : ((PA × (PA × Unit)) × (Int × Unit))) => (x15 ((x19.1.1, (x19.1.2.1, ())), ((Go.IntKind.wrap Go.IntKind.i64 (x19.2.1 + (1 : Int))), ()))))
def d51_L5 (x14 : (((PA × (PA × Unit)) × Unit) → (Option ((Bool × Unit) × Unit)))) : ((((PA × (PA × Unit)) × (Int × Unit)) → (Option ((Bool × Unit) × Unit))) → (((PA × (PA × Unit)) × (Int × Unit)) → (Option ((Bool × Unit) × Unit)))) :=
  (fun (x15 : (((PA × (PA × Unit)) × (Int × Unit)) → (Option ((Bool × Unit) × Unit)))) => (fun (x16 : ((PA × (PA × Unit)) × (Int × Unit))) => (lt (((List.length x16.1.2.1.2.2.2.2.2.2.2.2.2.1) : Nat) : Int) fun (x17 : Int) =>
  (lt (Decidable.decide (x16.2.1 < x17)) fun (x18 : Bool) =>
  (if (x18 = Bool.true) then
  (shr (d51_K4 x15) (fun (x19 : (((PA × (PA × Unit)) × (Int × Unit)) → (Option ((Bool × Unit) × Unit)))) => (if (((Decidable.decide ((0 : Int) ≤ x16.2.1)) && (Decidable.decide (x16.2.1 < (((List.length x16.1.2.1.2.2.2.2.2.2.2.2.2.1) : Nat) : Int)))) = Bool.true) then
  (lt (List.getD x16.1.2.1.2.2.2.2.2.2.2.2.2.1 (Int.toNat x16.2.1) Bool.false) fun (x20 : Bool) =>
  (if (((Decidable.decide ((0 : Int) ≤ x16.2.1)) && (Decidable.decide (x16.2.1 < (((List.length x16.1.1.2.2.2.2.2.2.2.2.2.1) : Nat) : Int)))) = Bool.true) then
  (lt (List.getD x16.1.1.2.2.2.2.2.2.2.2.2.1 (Int.toNat x16.2.1) Bool.false) fun (x21 : Bool) =>
  (lt (Bool.not (x20 == x21)) fun (x22 : Bool) =>
  (if (x22 = Bool.true) then
  (Option.some ((Bool.false, ()), ()))
  else (x19 ((x16.1.1, (x16.1.2.1, ())), (x16.2.1, ()))))))
  else (Option.none)))
  else (Option.none))))
  else (x14 ((x16.1.1, (x16.1.2.1, ())), ())))))))
def d51_K6 (x0 : Nat) : (((PA × (PA × Unit)) × Unit) → (Option ((Bool × Unit) × Unit))) :=
  (fun (x13 : ((PA × (PA × Unit)) × Unit)) => (shr (d51_K3 x0) (fun (x14 : (((PA × (PA × Unit)) × Unit) → (Option ((Bool × Unit) × Unit)))) => (loopN (d51_L5 x14) x0 ((x13.1.1, (x13.1.2.1, ())), ((0 : Int), ()))))))
def d51_K7 (x14 : (((PA × (PA × Unit)) × (Int × Unit)) → (Option ((Bool × Unit) × Unit)))) : (((PA × (PA × Unit)) × (Int × Unit)) → (Option ((Bool × Unit) × Unit))) :=
  (fun (x18 : ((PA × (PA × Unit)) × (Int × Unit))) => (x14 ((x18.1.1, (x18.1.2.1, ())), ((Go.IntKind.wrap Go.IntKind.i64 (x18.2.1 + (1 : Int))), ()))))
def d51_L8 (x13 : (((PA × (PA × Unit)) × Unit) → (Option ((Bool × Unit) × Unit)))) : ((((PA × (PA × Unit)) × (Int × Unit)) → (Option ((Bool × Unit) × Unit))) → (((PA × (PA × Unit)) × (Int × Unit)) → (Option ((Bool × Unit) × Unit)))) :=
  (fun (x14 : (((PA × (PA × Unit)) × (Int × Unit)) → (Option ((Bool × Unit) × Unit)))) => (fun (x15 : ((PA × (PA × Unit)) × (Int × Unit))) => (lt (((List.length x15.1.2.1.2.2.2.2.2.2.2.2.1) : Nat) : Int) fun (x16 : Int) =>
  (lt (Decidable.decide (x15.2.1 < x16)) fun (x17 : Bool) =>
  (if (x17 = Bool.true) then
  (shr (d51_K7 x14) (fun (x18 : (((PA × (PA × Unit)) × (Int × Unit)) → (Option ((Bool × Unit) × Unit)))) => (if (((Decidable.decide ((0 : Int) ≤ x15.2.1)) && (Decidable.decide (x15.2.1 < (((List.length x15.1.2.1.2.2.2.2.2.2.2.2.1) : Nat) : Int)))) = Bool.true) then
  (lt (List.getD x15.1.2.1.2.2.2.2.2.2.2.2.1 (Int.toNat x15.2.1) ((0 : Int), ((0 : Int), ()))) fun (x19 : I2) =>
  (if (((Decidable.decide ((0 : Int) ≤ x15.2.1)) && (Decidable.decide (x15.2.1 < (((List.length x15.1.1.2.2.2.2.2.2.2.2.1) : Nat) : Int)))) = Bool.true) then
  (lt (List.getD x15.1.1.2.2.2.2.2.2.2.2.1 (Int.toNat x15.2.1) ((0 : Int), ((0 : Int), ()))) fun (x20 : I2) =>
  (lt (Bool.not ((x19.1 == x20.1) && ((x19.2.1 == x20.2.1) && Bool.true))) fun (x21 : Bool) =>
  (if (x21 = Bool.true) then
  (Option.some ((Bool.false, ()), ()))
  else (x18 ((x15.1.1, (x15.1.2.1, ())), (x15.2.1, ()))))))
  else (Option.none)))
  else (Option.none))))
  else (x13 ((x15.1.1, (x15.1.2.1, ())), ())))))))
def d51 : (Nat → ((PA × (PA × Unit)) → (Option ((Bool × Unit) × Unit)))) :=
  (fun (x0 : Nat) => (fun (x1 : (PA × (PA × Unit))) => (lt (((List.length x1.1.2.2.2.2.2.2.2.2.1) : Nat) : Int) fun (x2 : Int) =>
  (lt (((List.length x1.2.1.2.2.2.2.2.2.2.2.1) : Nat) : Int) fun (x3 : Int) =>
  (lt (x2 != x3) fun (x4 : Bool) =>
  (lt (((List.length x1.1.2.2.2.2.2.2.2.2.2.1) : Nat) : Int) fun (x5 : Int) =>
  (lt (((List.length x1.2.1.2.2.2.2.2.2.2.2.2.1) : Nat) : Int) fun (x6 : Int) =>
  (lt (x5 != x6) fun (x7 : Bool) =>
  (lt (if (x4 = Bool.true) then
  Bool.true
  else x7) fun (x8 : Bool) =>
  (lt (((List.length x1.1.2.2.2.2.2.2.2.2.2.2.1) : Nat) : Int) fun (x9 : Int) =>
  (lt (((List.length x1.2.1.2.2.2.2.2.2.2.2.2.2.1) : Nat) : Int) fun (x10 : Int) =>
  (lt (x9 != x10) fun (x11 : Bool) =>
  (lt (if (x8 = Bool.true) then
  Bool.true
  else x11) fun (x12 : Bool) =>
  (if (x12 = Bool.true) then
  (Option.some ((Bool.false, ()), ()))
  else (shr (d51_K6 x0) (fun (x13 : (((PA × (PA × Unit)) × Unit) → (Option ((Bool × Unit) × Unit)))) => (loopN (d51_L8 x13) x0 ((x1.2.1, (x1.1, ())), ((0 : Int), ())))))))))))))))))))
theorem k51 : c_fn Try.prog ⟨[], ks0⟩ Try.f51 s51 h51 = some d51 := by kernel_rfl
/-- bulkhead/bulkheadref24.SamePart -/
def s31 : Sig := ⟨[(kPA, .val), (kPA, .val)], [(.bool, .val)]⟩
 def h31 : Hint := (.seq .leaf
   (.seq (.seq .leaf
   (.cond none
     (.seq .leaf
     .leaf)
     .leaf))
   (.seq .leaf
   .leaf)))
def d31 : (Nat → ((PA × (PA × Unit)) → (Option ((Bool × Unit) × Unit)))) :=
  (fun (x0 : Nat) => (fun (x1 : (PA × (PA × Unit))) => (lt (Bool.not ((x1.1.1.1 == x1.2.1.1.1) && ((x1.1.1.2.1 == x1.2.1.1.2.1) && ((x1.1.1.2.2.1 == x1.2.1.1.2.2.1) && ((x1.1.1.2.2.2.1 == x1.2.1.1.2.2.2.1) && Bool.true))))) fun (x2 : Bool) =>
  (lt (x1.1.2.1 != x1.2.1.2.1) fun (x3 : Bool) =>
  (lt (if (x2 = Bool.true) then
  Bool.true
  else x3) fun (x4 : Bool) =>
  (lt (x1.1.2.2.1 != x1.2.1.2.2.1) fun (x5 : Bool) =>
  (lt (if (x4 = Bool.true) then
  Bool.true
  else x5) fun (x6 : Bool) =>
  (lt (x1.1.2.2.2.2.2.2.1 != x1.2.1.2.2.2.2.2.2.1) fun (x7 : Bool) =>
  (lt (if (x6 = Bool.true) then
  Bool.true
  else x7) fun (x8 : Bool) =>
  (lt (Bool.not (Go.Lift.allEq (fun (x9 : Int) => (fun (x10 : Int) => (x9 == x10))) x1.1.2.2.2.2.2.2.2.1 x1.2.1.2.2.2.2.2.2.2.1)) fun (x9 : Bool) =>
  (lt (if (x8 = Bool.true) then
  Bool.true
  else x9) fun (x10 : Bool) =>
  (if (x10 = Bool.true) then
  (Option.some ((Bool.false, ()), ()))
  else (Option.bind (d33 x0 (x1.1.2.2.2.1, (x1.2.1.2.2.2.1, ()))) fun (x11 : ((Bool × Unit) × Unit)) =>
  (Option.bind (if (((x11.1.1 == Bool.true) && Bool.true) = Bool.true) then
  (d50 x0 (x1.1, (x1.2.1, ())))
  else (Option.some ((Bool.false, ()), ()))) fun (x12 : ((Bool × Unit) × Unit)) =>
  (lt (if (x11.1.1 = Bool.true) then
  x12.1.1
  else Bool.false) fun (x13 : Bool) =>
  (Option.bind (if (((x13 == Bool.true) && Bool.true) = Bool.true) then
  (d51 x0 (x1.1, (x1.2.1, ())))
  else (Option.some ((Bool.false, ()), ()))) fun (x14 : ((Bool × Unit) × Unit)) =>
  (Option.some (((if (x13 = Bool.true) then
  x14.1.1
  else Bool.false), ()), ()))))))))))))))))))
theorem k31 : c_fn Try.prog ⟨[(33, ⟨s33, d33⟩), (50, ⟨s50, d50⟩), (51, ⟨s51, d51⟩)], ks0⟩ Try.f31 s31 h31 = some d31 := by kernel_rfl
/-- bulkhead/bulkheadref24.Alike -/
def s10 : Sig := ⟨[(kIM, .val), (kIM, .val), ((.int .i64), .val)], [(.bool, .val)]⟩
 def h10 : Hint := (.seq .leaf
   (.seq (.seq .leaf
   (.cond none
     (.seq .leaf
     .leaf)
     .leaf))
   (.seq .leaf
   (.seq (.seq .leaf
   (.block ⟨[], [((8, 0), (.val .bool))]⟩ true
     (.loop ⟨[((.sl 3 (.int .i64)), (.ow .sh), (7, 0)), ((.ptr 26 kIM), (.ow .sh), (4, 0)), ((.ptr 26 kIM), (.ow .sh), (3, 0))], [((9, 0), (.val (.int .i64))), ((7, 0), (.own 0)), ((4, 0), (.own 1)), ((3, 0), (.own 2)), ((8, 0), (.val .bool))]⟩
       (.seq (.seq .leaf
       (.cond none
         .leaf
         .leaf))
       (.seq (.block ⟨[((.sl 3 (.int .i64)), (.ow .sh), (7, 0)), ((.ptr 26 kIM), (.ow .sh), (4, 0)), ((.ptr 26 kIM), (.ow .sh), (3, 0))], [((7, 0), (.own 0)), ((4, 0), (.own 1)), ((3, 0), (.own 2)), ((8, 0), (.val .bool)), ((9, 0), (.val (.int .i64)))]⟩ true
         (.seq .leaf
         (.cond none
           (.seq .leaf
           .leaf)
           .leaf)))
       .leaf)))))
   (.seq .leaf
   .leaf)))))
def d10_K1  : ((Unit × (Bool × Unit)) → (Option ((Bool × Unit) × Unit))) :=
  (fun (x5 : (Unit × (Bool × Unit))) => (Option.some ((x5.2.1, ()), ())))
def d10_K2 (x6 : ((((List Int) × (IM × (IM × Unit))) × (Int × (Bool × Unit))) → (Option ((Bool × Unit) × Unit)))) : ((((List Int) × (IM × (IM × Unit))) × (Bool × (Int × Unit))) → (Option ((Bool × Unit) × Unit))) :=
  (fun (x10 : (((List Int) × (IM × (IM × Unit))) × (Bool × (Int × Unit)))) => (x6 ((x10.1.1, (x10.1.2.1, (x10.1.2.2.1, ()))), ((Go.IntKind.wrap Go.IntKind.i64 (x10.2.2.1 + (1 : Int))), (x10.2.1, ())))))
def d10_L3 (x0 : Nat) (x5 : ((Unit × (Bool × Unit)) → (Option ((Bool × Unit) × Unit)))) : (((((List Int) × (IM × (IM × Unit))) × (Int × (Bool × Unit))) → (Option ((Bool × Unit) × Unit))) → ((((List Int) × (IM × (IM × Unit))) × (Int × (Bool × Unit))) → (Option ((Bool × Unit) × Unit)))) :=
  (fun (x6 : ((((List Int) × (IM × (IM × Unit))) × (Int × (Bool × Unit))) → (Option ((Bool × Unit) × Unit)))) => (fun (x7 : (((List Int) × (IM × (IM × Unit))) × (Int × (Bool × Unit)))) => (lt (((List.length x7.1.1) : Nat) : Int) fun (x8 : Int) =>
  (lt (Decidable.decide (x7.2.1 < x8)) fun (x9 : Bool) =>
  (if (x9 = Bool.true) then
  (shr (d10_K2 x6) (fun (x10 : ((((List Int) × (IM × (IM × Unit))) × (Bool × (Int × Unit))) → (Option ((Bool × Unit) × Unit)))) => (if (((Decidable.decide ((0 : Int) ≤ x7.2.1)) && (Decidable.decide (x7.2.1 < (((List.length x7.1.1) : Nat) : Int)))) = Bool.true) then
  (if (((Decidable.decide ((Int.toNat x7.2.1) < (List.length x7.1.1))) && Bool.true) = Bool.true) then
  (lt (List.getD x7.1.1 (Int.toNat x7.2.1) (0 : Int)) fun (x11 : Int) =>
  (lt (Go.IntKind.wrap Go.IntKind.i64 (x11 - (1 : Int))) fun (x12 : Int) =>
  (if (((Decidable.decide ((0 : Int) ≤ x12)) && (Decidable.decide (x12 < (((List.length x7.1.2.2.1.1) : Nat) : Int)))) = Bool.true) then
  (lt (List.getD x7.1.2.2.1.1 (Int.toNat x12) (((0 : Int), ((0 : Int), ((0 : Int), ((0 : Int), ())))), ((0 : Int), ((0 : Int), (([] : List Int), (([] : List IS), (([] : List PC), ((0 : Int), ((List.replicate (8 : Nat) (0 : Int)), (([] : List I2), (([] : List Bool), (([] : List I2), ())))))))))))) fun (x13 : PA) =>
  (if (((Decidable.decide ((0 : Int) ≤ x7.2.1)) && (Decidable.decide (x7.2.1 < (((List.length x7.1.1) : Nat) : Int)))) = Bool.true) then
  (if (((Decidable.decide ((Int.toNat x7.2.1) < (List.length x7.1.1))) && Bool.true) = Bool.true) then
  (lt (List.getD x7.1.1 (Int.toNat x7.2.1) (0 : Int)) fun (x14 : Int) =>
  (lt (Go.IntKind.wrap Go.IntKind.i64 (x14 - (1 : Int))) fun (x15 : Int) =>
  (if (((Decidable.decide ((0 : Int) ≤ x15)) && (Decidable.decide (x15 < (((List.length x7.1.2.1.1) : Nat) : Int)))) = Bool.true) then
  (lt (List.getD x7.1.2.1.1 (Int.toNat x15) (((0 : Int), ((0 : Int), ((0 : Int), ((0 : Int), ())))), ((0 : Int), ((0 : Int), (([] : List Int), (([] : List IS), (([] : List PC), ((0 : Int), ((List.replicate (8 : Nat) (0 : Int)), (([] : List I2), (([] : List Bool), (([] : List I2), ())))))))))))) fun (x16 : PA) =>
  (Option.bind (d31 x0 (x13, (x16, ()))) fun (x17 : ((Bool × Unit) × Unit)) =>
  (lt (Bool.not x17.1.1) fun (x18 : Bool) =>
  (if (x18 = Bool.true) then
  (Option.some ((Bool.false, ()), ()))
  else (x10 ((x7.1.1, (x7.1.2.1, (x7.1.2.2.1, ()))), (x7.2.2.1, (x7.2.1, ()))))))))
  else (Option.none))))
  else (Option.none))
  else (Option.none)))
  else (Option.none))))
  else (Option.none))
  else (Option.none))))
  else (x5 ((), (x7.2.2.1, ()))))))))
def d10 : (Nat → ((IM × (IM × (Int × Unit))) → (Option ((Bool × Unit) × Unit)))) :=
  (fun (x0 : Nat) => (fun (x1 : (IM × (IM × (Int × Unit)))) => (Option.bind (d29 x0 (x1.1, (x1.2.1, ()))) fun (x2 : ((Bool × Unit) × Unit)) =>
  (lt (Bool.not x2.1.1) fun (x3 : Bool) =>
  (if (x3 = Bool.true) then
  (Option.some ((Bool.false, ()), ()))
  else (Option.bind (d30 x0 (x1.1, (x1.2.2.1, ()))) fun (x4 : (((List Int) × (Bool × Unit)) × Unit)) =>
  (shr d10_K1 (fun (x5 : ((Unit × (Bool × Unit)) → (Option ((Bool × Unit) × Unit)))) => (loopN (d10_L3 x0 x5) x0 ((x4.1.1, (x1.2.1, (x1.1, ()))), ((0 : Int), (x4.1.2.1, ()))))))))))))
theorem k10 : c_fn Try.prog ⟨[(29, ⟨s29, d29⟩), (30, ⟨s30, d30⟩), (31, ⟨s31, d31⟩)], ks0⟩ Try.f10 s10 h10 = some d10 := by kernel_rfl
/-- bulkhead/bulkheadref24.Reaches -/
def s52 : Sig := ⟨[(kIM, .val), (kIN, .val), ((.int .i64), .val)], [(.bool, .val)]⟩
 def h52 : Hint := (.seq .leaf
   (.seq (.seq .leaf
   (.cond none
     (.seq .leaf
     .leaf)
     .leaf))
   (.seq (.seq .leaf
   (.cond none
     (.seq .leaf
     .leaf)
     .leaf))
   (.seq (.seq .leaf
   (.cond none
     (.seq .leaf
     .leaf)
     .leaf))
   (.seq .leaf
   .leaf)))))
def d52 : (Nat → ((IM × (IN × (Int × Unit))) → (Option ((Bool × Unit) × Unit)))) :=
  (fun (x0 : Nat) => (fun (x1 : (IM × (IN × (Int × Unit)))) => (Option.bind (d48 x0 (x1.1, (x1.2.2.1, ()))) fun (x2 : ((Bool × Unit) × Unit)) =>
  (lt (Bool.not x2.1.1) fun (x3 : Bool) =>
  (if (x3 = Bool.true) then
  (Option.some ((Bool.false, ()), ()))
  else (lt (x1.2.1.2.1 == (2 : Int)) fun (x4 : Bool) =>
  (if (x4 = Bool.true) then
  (Option.some (((x1.2.1.2.2.1 == x1.2.2.1), ()), ()))
  else (lt (x1.2.1.2.1 != (1 : Int)) fun (x5 : Bool) =>
  (lt (Decidable.decide (x1.2.1.2.2.1 < (1 : Int))) fun (x6 : Bool) =>
  (lt (if (x5 = Bool.true) then
  Bool.true
  else x6) fun (x7 : Bool) =>
  (lt (((List.length x1.1.2.2.1) : Nat) : Int) fun (x8 : Int) =>
  (lt (Decidable.decide (x1.2.1.2.2.1 > x8)) fun (x9 : Bool) =>
  (lt (if (x7 = Bool.true) then
  Bool.true
  else x9) fun (x10 : Bool) =>
  (if (x10 = Bool.true) then
  (Option.some ((Bool.false, ()), ()))
  else (lt (Go.IntKind.wrap Go.IntKind.i64 (x1.2.1.2.2.1 - (1 : Int))) fun (x11 : Int) =>
  (if (((Decidable.decide ((0 : Int) ≤ x11)) && (Decidable.decide (x11 < (((List.length x1.1.2.2.1) : Nat) : Int)))) = Bool.true) then
  (Option.bind (d61 x0 (x1.1, ((List.getD x1.1.2.2.1 (Int.toNat x11) ((0 : Int), ((0 : Int), (([] : List Int), ((0 : Int), ((0 : Int), ())))))), (x1.2.2.1, ())))) fun (x12 : ((Bool × Unit) × Unit)) =>
  (Option.some ((x12.1.1, ()), ())))
  else (Option.none)))))))))))))))))
theorem k52 : c_fn Try.prog ⟨[(48, ⟨s48, d48⟩), (61, ⟨s61, d61⟩)], ks0⟩ Try.f52 s52 h52 = some d52 := by kernel_rfl
/-- bulkhead/bulkheadref24.coming -/
def s32 : Sig := ⟨[(kIM, .val), ((.sl 66 kIN), .val), ((.sl 3 (.int .i64)), .val)], [((.sl 66 kIN), (.own (.ow .sh)))]⟩
 def h32 : Hint := (.seq .leaf
   (.seq .leaf
   (.seq (.seq .leaf
   (.block ⟨[((.sl 66 kIN), (.ow .sh), (7, 0))], [((7, 0), (.own 0))]⟩ true
     (.loop ⟨[((.ptr 26 kIM), (.ow .sh), (3, 0)), ((.sl 66 kIN), (.ow .sh), (7, 0))], [((2, 0), (.val (.sl 3 (.int .i64)))), ((8, 0), (.val (.int .i64))), ((1, 0), (.val (.sl 66 kIN))), ((3, 0), (.own 0)), ((7, 0), (.own 1))]⟩
       (.seq (.seq .leaf
       (.cond none
         .leaf
         .leaf))
       (.seq (.block ⟨[((.ptr 26 kIM), (.ow .sh), (3, 0)), ((.sl 66 kIN), (.ow .sh), (7, 0))], [((2, 0), (.val (.sl 3 (.int .i64)))), ((1, 0), (.val (.sl 66 kIN))), ((3, 0), (.own 0)), ((7, 0), (.own 1)), ((8, 0), (.val (.int .i64)))]⟩ true
         (.seq .leaf
         (.seq (.seq .leaf
         (.block ⟨[((.ptr 26 kIM), (.ow .sh), (3, 0)), ((.sl 66 kIN), (.ow .sh), (7, 0))], [((2, 0), (.val (.sl 3 (.int .i64)))), ((1, 0), (.val (.sl 66 kIN))), ((3, 0), (.own 0)), ((8, 0), (.val (.int .i64))), ((7, 0), (.own 1)), ((9, 0), (.val .bool))]⟩ true
           (.loop ⟨[((.ptr 26 kIM), (.ow .sh), (3, 0)), ((.sl 66 kIN), (.ow .sh), (7, 0))], [((10, 0), (.val (.int .i64))), ((2, 0), (.val (.sl 3 (.int .i64)))), ((8, 0), (.val (.int .i64))), ((1, 0), (.val (.sl 66 kIN))), ((3, 0), (.own 0)), ((9, 0), (.val .bool)), ((7, 0), (.own 1))]⟩
             (.seq (.seq .leaf
             (.cond none
               .leaf
               .leaf))
             (.seq (.block ⟨[((.ptr 26 kIM), (.ow .sh), (3, 0)), ((.sl 66 kIN), (.ow .sh), (7, 0))], [((2, 0), (.val (.sl 3 (.int .i64)))), ((8, 0), (.val (.int .i64))), ((1, 0), (.val (.sl 66 kIN))), ((3, 0), (.own 0)), ((9, 0), (.val .bool)), ((7, 0), (.own 1)), ((10, 0), (.val (.int .i64)))]⟩ true
               .leaf)
             .leaf)))))
         (.seq .leaf
         (.cond (some ⟨[((.ptr 26 kIM), (.ow .sh), (3, 0)), ((.sl 66 kIN), (.ow .sh), (7, 0))], [((2, 0), (.val (.sl 3 (.int .i64)))), ((1, 0), (.val (.sl 66 kIN))), ((3, 0), (.own 0)), ((7, 0), (.own 1)), ((8, 0), (.val (.int .i64)))]⟩)
           .leaf
           .leaf)))))
       .leaf)))))
   (.seq .leaf
   .leaf))))
def d32_K1  : ((((List IN) × Unit) × Unit) → (Option (((List IN) × Unit) × Unit))) :=
  (fun (x2 : (((List IN) × Unit) × Unit)) => (Option.some ((x2.1.1, ()), ())))
def d32_K2 (x3 : (((IM × ((List IN) × Unit)) × ((List Int) × (Int × ((List IN) × Unit)))) → (Option (((List IN) × Unit) × Unit)))) : (((IM × ((List IN) × Unit)) × ((List Int) × ((List IN) × (Int × Unit)))) → (Option (((List IN) × Unit) × Unit))) :=
  (fun (x7 : ((IM × ((List IN) × Unit)) × ((List Int) × ((List IN) × (Int × Unit))))) => (x3 ((x7.1.1, (x7.1.2.1, ())), (x7.2.1, ((Go.IntKind.wrap Go.IntKind.i64 (x7.2.2.2.1 + (1 : Int))), (x7.2.2.1, ()))))))
def d32_K3 (x7 : (((IM × ((List IN) × Unit)) × ((List Int) × ((List IN) × (Int × Unit)))) → (Option (((List IN) × Unit) × Unit)))) : (((IM × ((List IN) × Unit)) × ((List Int) × ((List IN) × (Int × Unit)))) → (Option (((List IN) × Unit) × Unit))) :=
  (fun (x9 : ((IM × ((List IN) × Unit)) × ((List Int) × ((List IN) × (Int × Unit))))) => (x7 ((x9.1.1, (x9.1.2.1, ())), (x9.2.1, (x9.2.2.1, (x9.2.2.2.1, ()))))))
def d32_K4 (x7 : (((IM × ((List IN) × Unit)) × ((List Int) × ((List IN) × (Int × Unit)))) → (Option (((List IN) × Unit) × Unit)))) : (((IM × ((List IN) × Unit)) × ((List Int) × ((List IN) × (Int × (Bool × Unit))))) → (Option (((List IN) × Unit) × Unit))) :=
  (fun (x8 : ((IM × ((List IN) × Unit)) × ((List Int) × ((List IN) × (Int × (Bool × Unit)))))) => (shr (d32_K3 x7) (fun (x9 : (((IM × ((List IN) × Unit)) × ((List Int) × ((List IN) × (Int × Unit)))) → (Option (((List IN) × Unit) × Unit)))) => (if (x8.2.2.2.2.1 = Bool.true) then
  (if (((Decidable.decide ((0 : Int) ≤ x8.2.2.2.1)) && (Decidable.decide (x8.2.2.2.1 < (((List.length x8.2.2.1) : Nat) : Int)))) = Bool.true) then
  (lt (List.getD x8.2.2.1 (Int.toNat x8.2.2.2.1) ((0 : Int), ((0 : Int), ((0 : Int), (([] : List Int), ()))))) fun (x10 : IN) =>
  (lt (x10 :: ([] : List IN)) fun (x11 : (List IN)) =>
  (if ((Go.Lift.appFits (List.length x8.1.2.1) (List.length x11) (48 : Nat)) = Bool.true) then
  (x9 ((x8.1.1, ((x8.1.2.1 ++ x11), ())), (x8.2.1, (x8.2.2.1, (x8.2.2.2.1, ())))))
  else (Option.none))))
  else (Option.none))
  else (x9 ((x8.1.1, (x8.1.2.1, ())), (x8.2.1, (x8.2.2.1, (x8.2.2.2.1, ())))))))))
def d32_K5 (x9 : (((IM × ((List IN) × Unit)) × (Int × ((List Int) × (Int × ((List IN) × (Bool × Unit)))))) → (Option (((List IN) × Unit) × Unit)))) : (((IM × ((List IN) × Unit)) × ((List Int) × (Int × ((List IN) × (Bool × (Int × Unit)))))) → (Option (((List IN) × Unit) × Unit))) :=
  (fun (x13 : ((IM × ((List IN) × Unit)) × ((List Int) × (Int × ((List IN) × (Bool × (Int × Unit))))))) => (x9 ((x13.1.1, (x13.1.2.1, ())), ((Go.IntKind.wrap Go.IntKind.i64 (x13.2.2.2.2.2.1 + (1 : Int))), (x13.2.1, (x13.2.2.1, (x13.2.2.2.1, (x13.2.2.2.2.1, ()))))))))
def d32_L6 (x0 : Nat) (x8 : (((IM × ((List IN) × Unit)) × ((List Int) × ((List IN) × (Int × (Bool × Unit))))) → (Option (((List IN) × Unit) × Unit)))) : ((((IM × ((List IN) × Unit)) × (Int × ((List Int) × (Int × ((List IN) × (Bool × Unit)))))) → (Option (((List IN) × Unit) × Unit))) → (((IM × ((List IN) × Unit)) × (Int × ((List Int) × (Int × ((List IN) × (Bool × Unit)))))) → (Option (((List IN) × Unit) × Unit)))) :=
  (fun (x9 : (((IM × ((List IN) × Unit)) × (Int × ((List Int) × (Int × ((List IN) × (Bool × Unit)))))) → (Option (((List IN) × Unit) × Unit)))) => (fun (x10 : ((IM × ((List IN) × Unit)) × (Int × ((List Int) × (Int × ((List IN) × (Bool × Unit))))))) => (lt (((List.length x10.2.2.1) : Nat) : Int) fun (x11 : Int) =>
  (lt (Decidable.decide (x10.2.1 < x11)) fun (x12 : Bool) =>
  (if (x12 = Bool.true) then
  (shr (d32_K5 x9) (fun (x13 : (((IM × ((List IN) × Unit)) × ((List Int) × (Int × ((List IN) × (Bool × (Int × Unit)))))) → (Option (((List IN) × Unit) × Unit)))) => (if (((Bool.not ((x10.2.2.2.2.2.1 == Bool.false) && Bool.true)) || ((Decidable.decide ((0 : Int) ≤ x10.2.2.2.1)) && (Decidable.decide (x10.2.2.2.1 < (((List.length x10.2.2.2.2.1) : Nat) : Int))))) = Bool.true) then
  (lt (List.getD x10.2.2.2.2.1 (Int.toNat x10.2.2.2.1) ((0 : Int), ((0 : Int), ((0 : Int), (([] : List Int), ()))))) fun (x14 : IN) =>
  (if (((Bool.not ((x10.2.2.2.2.2.1 == Bool.false) && Bool.true)) || ((Decidable.decide ((0 : Int) ≤ x10.2.1)) && (Decidable.decide (x10.2.1 < (((List.length x10.2.2.1) : Nat) : Int))))) = Bool.true) then
  (lt (List.getD x10.2.2.1 (Int.toNat x10.2.1) (0 : Int)) fun (x15 : Int) =>
  (Option.bind (if (((x10.2.2.2.2.2.1 == Bool.false) && Bool.true) = Bool.true) then
  (d52 x0 (x10.1.1, (x14, (x15, ()))))
  else (Option.some ((Bool.false, ()), ()))) fun (x16 : ((Bool × Unit) × Unit)) =>
  (x13 ((x10.1.1, (x10.1.2.1, ())), (x10.2.2.1, (x10.2.2.2.1, (x10.2.2.2.2.1, ((if (x10.2.2.2.2.2.1 = Bool.true) then
  Bool.true
  else x16.1.1), (x10.2.1, ())))))))))
  else (Option.none)))
  else (Option.none))))
  else (x8 ((x10.1.1, (x10.1.2.1, ())), (x10.2.2.1, (x10.2.2.2.2.1, (x10.2.2.2.1, (x10.2.2.2.2.2.1, ())))))))))))
def d32_L7 (x0 : Nat) (x2 : ((((List IN) × Unit) × Unit) → (Option (((List IN) × Unit) × Unit)))) : ((((IM × ((List IN) × Unit)) × ((List Int) × (Int × ((List IN) × Unit)))) → (Option (((List IN) × Unit) × Unit))) → (((IM × ((List IN) × Unit)) × ((List Int) × (Int × ((List IN) × Unit)))) → (Option (((List IN) × Unit) × Unit)))) :=
  (fun (x3 : (((IM × ((List IN) × Unit)) × ((List Int) × (Int × ((List IN) × Unit)))) → (Option (((List IN) × Unit) × Unit)))) => (fun (x4 : ((IM × ((List IN) × Unit)) × ((List Int) × (Int × ((List IN) × Unit))))) => (lt (((List.length x4.2.2.2.1) : Nat) : Int) fun (x5 : Int) =>
  (lt (Decidable.decide (x4.2.2.1 < x5)) fun (x6 : Bool) =>
  (if (x6 = Bool.true) then
  (shr (d32_K2 x3) (fun (x7 : (((IM × ((List IN) × Unit)) × ((List Int) × ((List IN) × (Int × Unit)))) → (Option (((List IN) × Unit) × Unit)))) => (shr (d32_K4 x7) (fun (x8 : (((IM × ((List IN) × Unit)) × ((List Int) × ((List IN) × (Int × (Bool × Unit))))) → (Option (((List IN) × Unit) × Unit)))) => (loopN (d32_L6 x0 x8) x0 ((x4.1.1, (x4.1.2.1, ())), ((0 : Int), (x4.2.1, (x4.2.2.1, (x4.2.2.2.1, (Bool.false, ())))))))))))
  else (x2 ((x4.1.2.1, ()), ())))))))
def d32 : (Nat → ((IM × ((List IN) × ((List Int) × Unit))) → (Option (((List IN) × Unit) × Unit)))) :=
  (fun (x0 : Nat) => (fun (x1 : (IM × ((List IN) × ((List Int) × Unit)))) => (shr d32_K1 (fun (x2 : ((((List IN) × Unit) × Unit) → (Option (((List IN) × Unit) × Unit)))) => (loopN (d32_L7 x0 x2) x0 ((x1.1, (([] : List IN), ())), (x1.2.2.1, ((0 : Int), (x1.2.1, ())))))))))
theorem k32 : c_fn Try.prog ⟨[(52, ⟨s52, d52⟩)], ks0⟩ Try.f32 s32 h32 = some d32 := by kernel_rfl
/-- bulkhead/bulkheadref24.AlikeInputs -/
def s11 : Sig := ⟨[(kIM, .val), ((.sl 66 kIN), .val), ((.sl 66 kIN), .val), ((.int .i64), .val)], [(.bool, .val)]⟩
 def h11 : Hint := (.seq .leaf
   (.seq .leaf
   (.seq (.pre ⟨[((.ptr 26 kIM), (.ow .sh), (4, 0))], [((10, 0), (.val .bool)), ((9, 0), (.val (.sl 3 (.int .i64)))), ((2, 0), (.val (.sl 66 kIN))), ((4, 0), (.own 0)), ((1, 0), (.val (.sl 66 kIN)))]⟩ .leaf)
   (.seq .leaf
   (.seq (.seq .leaf
   (.cond none
     (.seq .leaf
     .leaf)
     .leaf))
   (.seq (.seq .leaf
   (.block ⟨[], []⟩ true
     (.loop ⟨[((.sl 66 kIN), (.ow .sh), (12, 0)), ((.sl 66 kIN), (.ow .sh), (11, 0))], [((13, 0), (.val (.int .i64))), ((12, 0), (.own 0)), ((11, 0), (.own 1))]⟩
       (.seq (.seq .leaf
       (.cond none
         .leaf
         .leaf))
       (.seq (.block ⟨[((.sl 66 kIN), (.ow .sh), (12, 0)), ((.sl 66 kIN), (.ow .sh), (11, 0))], [((12, 0), (.own 0)), ((11, 0), (.own 1)), ((13, 0), (.val (.int .i64)))]⟩ true
         (.seq .leaf
         (.cond none
           (.seq .leaf
           .leaf)
           .leaf)))
       .leaf)))))
   (.seq .leaf
   .leaf)))))))
def d11_K1 (x11 : ((((List IN) × ((List IN) × Unit)) × (Int × Unit)) → (Option ((Bool × Unit) × Unit)))) : ((((List IN) × ((List IN) × Unit)) × (Int × Unit)) → (Option ((Bool × Unit) × Unit))) :=
  (fun (x15 : (((List IN) × ((List IN) × Unit)) × (Int × Unit))) => (x11 ((x15.1.1, (x15.1.2.1, ())), ((Go.IntKind.wrap Go.IntKind.i64 (x15.2.1 + (1 : Int))), ()))))
def d11_L2 (x0 : Nat) (x10 : ((Unit × Unit) → (Option ((Bool × Unit) × Unit)))) : (((((List IN) × ((List IN) × Unit)) × (Int × Unit)) → (Option ((Bool × Unit) × Unit))) → ((((List IN) × ((List IN) × Unit)) × (Int × Unit)) → (Option ((Bool × Unit) × Unit)))) :=
  (fun (x11 : ((((List IN) × ((List IN) × Unit)) × (Int × Unit)) → (Option ((Bool × Unit) × Unit)))) => (fun (x12 : (((List IN) × ((List IN) × Unit)) × (Int × Unit))) => (lt (((List.length x12.1.2.1) : Nat) : Int) fun (x13 : Int) =>
  (lt (Decidable.decide (x12.2.1 < x13)) fun (x14 : Bool) =>
  (if (x14 = Bool.true) then
  (shr (d11_K1 x11) (fun (x15 : ((((List IN) × ((List IN) × Unit)) × (Int × Unit)) → (Option ((Bool × Unit) × Unit)))) => (if (((Decidable.decide ((0 : Int) ≤ x12.2.1)) && (Decidable.decide (x12.2.1 < (((List.length x12.1.2.1) : Nat) : Int)))) = Bool.true) then
  (if (((Decidable.decide ((Int.toNat x12.2.1) < (List.length x12.1.2.1))) && Bool.true) = Bool.true) then
  (if (((Decidable.decide ((Int.toNat x12.2.1) < (List.length x12.1.2.1))) && Bool.true) = Bool.true) then
  (lt (List.getD x12.1.2.1 (Int.toNat x12.2.1) ((0 : Int), ((0 : Int), ((0 : Int), (([] : List Int), ()))))).1 fun (x16 : Int) =>
  (if (((Decidable.decide ((0 : Int) ≤ x12.2.1)) && (Decidable.decide (x12.2.1 < (((List.length x12.1.1) : Nat) : Int)))) = Bool.true) then
  (if (((Decidable.decide ((Int.toNat x12.2.1) < (List.length x12.1.1))) && Bool.true) = Bool.true) then
  (if (((Decidable.decide ((Int.toNat x12.2.1) < (List.length x12.1.1))) && Bool.true) = Bool.true) then
  (lt (List.getD x12.1.1 (Int.toNat x12.2.1) ((0 : Int), ((0 : Int), ((0 : Int), (([] : List Int), ()))))).1 fun (x17 : Int) =>
  (lt (x16 != x17) fun (x18 : Bool) =>
  (if (((Bool.not ((x18 == Bool.false) && Bool.true)) || ((Decidable.decide ((0 : Int) ≤ x12.2.1)) && (Decidable.decide (x12.2.1 < (((List.length x12.1.2.1) : Nat) : Int))))) = Bool.true) then
  (if (((Bool.not ((x18 == Bool.false) && Bool.true)) || ((Decidable.decide ((Int.toNat x12.2.1) < (List.length x12.1.2.1))) && Bool.true)) = Bool.true) then
  (if (((Bool.not ((x18 == Bool.false) && Bool.true)) || ((Decidable.decide ((Int.toNat x12.2.1) < (List.length x12.1.2.1))) && Bool.true)) = Bool.true) then
  (lt (List.getD x12.1.2.1 (Int.toNat x12.2.1) ((0 : Int), ((0 : Int), ((0 : Int), (([] : List Int), ()))))).2.1 fun (x19 : Int) =>
  (if (((Bool.not ((x18 == Bool.false) && Bool.true)) || ((Decidable.decide ((0 : Int) ≤ x12.2.1)) && (Decidable.decide (x12.2.1 < (((List.length x12.1.1) : Nat) : Int))))) = Bool.true) then
  (if (((Bool.not ((x18 == Bool.false) && Bool.true)) || ((Decidable.decide ((Int.toNat x12.2.1) < (List.length x12.1.1))) && Bool.true)) = Bool.true) then
  (if (((Bool.not ((x18 == Bool.false) && Bool.true)) || ((Decidable.decide ((Int.toNat x12.2.1) < (List.length x12.1.1))) && Bool.true)) = Bool.true) then
  (lt (List.getD x12.1.1 (Int.toNat x12.2.1) ((0 : Int), ((0 : Int), ((0 : Int), (([] : List Int), ()))))).2.1 fun (x20 : Int) =>
  (lt (x19 != x20) fun (x21 : Bool) =>
  (lt (if (x18 = Bool.true) then
  Bool.true
  else x21) fun (x22 : Bool) =>
  (if (((Bool.not ((x22 == Bool.false) && Bool.true)) || ((Decidable.decide ((0 : Int) ≤ x12.2.1)) && (Decidable.decide (x12.2.1 < (((List.length x12.1.2.1) : Nat) : Int))))) = Bool.true) then
  (if (((Bool.not ((x22 == Bool.false) && Bool.true)) || ((Decidable.decide ((Int.toNat x12.2.1) < (List.length x12.1.2.1))) && Bool.true)) = Bool.true) then
  (if (((Bool.not ((x22 == Bool.false) && Bool.true)) || ((Decidable.decide ((Int.toNat x12.2.1) < (List.length x12.1.2.1))) && Bool.true)) = Bool.true) then
  (lt (List.getD x12.1.2.1 (Int.toNat x12.2.1) ((0 : Int), ((0 : Int), ((0 : Int), (([] : List Int), ()))))).2.2.1 fun (x23 : Int) =>
  (if (((Bool.not ((x22 == Bool.false) && Bool.true)) || ((Decidable.decide ((0 : Int) ≤ x12.2.1)) && (Decidable.decide (x12.2.1 < (((List.length x12.1.1) : Nat) : Int))))) = Bool.true) then
  (if (((Bool.not ((x22 == Bool.false) && Bool.true)) || ((Decidable.decide ((Int.toNat x12.2.1) < (List.length x12.1.1))) && Bool.true)) = Bool.true) then
  (if (((Bool.not ((x22 == Bool.false) && Bool.true)) || ((Decidable.decide ((Int.toNat x12.2.1) < (List.length x12.1.1))) && Bool.true)) = Bool.true) then
  (lt (List.getD x12.1.1 (Int.toNat x12.2.1) ((0 : Int), ((0 : Int), ((0 : Int), (([] : List Int), ()))))).2.2.1 fun (x24 : Int) =>
  (lt (x23 != x24) fun (x25 : Bool) =>
  (lt (if (x22 = Bool.true) then
  Bool.true
  else x25) fun (x26 : Bool) =>
  (if (((Bool.not ((x26 == Bool.false) && Bool.true)) || ((Decidable.decide ((0 : Int) ≤ x12.2.1)) && (Decidable.decide (x12.2.1 < (((List.length x12.1.2.1) : Nat) : Int))))) = Bool.true) then
  (if (((Bool.not ((x26 == Bool.false) && Bool.true)) || ((Decidable.decide ((Int.toNat x12.2.1) < (List.length x12.1.2.1))) && Bool.true)) = Bool.true) then
  (if (((Bool.not ((x26 == Bool.false) && Bool.true)) || ((Decidable.decide ((Int.toNat x12.2.1) < (List.length x12.1.2.1))) && Bool.true)) = Bool.true) then
  (lt (List.getD x12.1.2.1 (Int.toNat x12.2.1) ((0 : Int), ((0 : Int), ((0 : Int), (([] : List Int), ()))))).2.2.2.1 fun (x27 : (List Int)) =>
  (if (((Bool.not ((x26 == Bool.false) && Bool.true)) || ((Decidable.decide ((0 : Int) ≤ x12.2.1)) && (Decidable.decide (x12.2.1 < (((List.length x12.1.1) : Nat) : Int))))) = Bool.true) then
  (if (((Bool.not ((x26 == Bool.false) && Bool.true)) || ((Decidable.decide ((Int.toNat x12.2.1) < (List.length x12.1.1))) && Bool.true)) = Bool.true) then
  (if (((Bool.not ((x26 == Bool.false) && Bool.true)) || ((Decidable.decide ((Int.toNat x12.2.1) < (List.length x12.1.1))) && Bool.true)) = Bool.true) then
  (lt (List.getD x12.1.1 (Int.toNat x12.2.1) ((0 : Int), ((0 : Int), ((0 : Int), (([] : List Int), ()))))).2.2.2.1 fun (x28 : (List Int)) =>
  (Option.bind (if (((x26 == Bool.false) && Bool.true) = Bool.true) then
  (d33 x0 (x27, (x28, ())))
  else (Option.some ((Bool.false, ()), ()))) fun (x29 : ((Bool × Unit) × Unit)) =>
  (lt (Bool.not x29.1.1) fun (x30 : Bool) =>
  (lt (if (x26 = Bool.true) then
  Bool.true
  else x30) fun (x31 : Bool) =>
  (if (x31 = Bool.true) then
  (Option.some ((Bool.false, ()), ()))
  else (x15 ((x12.1.1, (x12.1.2.1, ())), (x12.2.1, ()))))))))
  else (Option.none))
  else (Option.none))
  else (Option.none)))
  else (Option.none))
  else (Option.none))
  else (Option.none)))))
  else (Option.none))
  else (Option.none))
  else (Option.none)))
  else (Option.none))
  else (Option.none))
  else (Option.none)))))
  else (Option.none))
  else (Option.none))
  else (Option.none)))
  else (Option.none))
  else (Option.none))
  else (Option.none))))
  else (Option.none))
  else (Option.none))
  else (Option.none)))
  else (Option.none))
  else (Option.none))
  else (Option.none))))
  else (x10 ((), ())))))))
def d11 : (Nat → ((IM × ((List IN) × ((List IN) × (Int × Unit)))) → (Option ((Bool × Unit) × Unit)))) :=
  (fun (x0 : Nat) => (fun (x1 : (IM × ((List IN) × ((List IN) × (Int × Unit))))) => (Option.bind (d30 x0 (x1.1, (x1.2.2.2.1, ()))) fun (x2 : (((List Int) × (Bool × Unit)) × Unit)) =>
  (Option.bind (d32 x0 (x1.1, (x1.2.1, (x2.1.1, ())))) fun (x3 : (((List IN) × Unit) × Unit)) =>
  (Option.bind (d32 x0 (x1.1, (x1.2.2.1, (x2.1.1, ())))) fun (x4 : (((List IN) × Unit) × Unit)) =>
  (lt (Bool.not x2.1.2.1) fun (x5 : Bool) =>
  (lt (((List.length x3.1.1) : Nat) : Int) fun (x6 : Int) =>
  (lt (((List.length x4.1.1) : Nat) : Int) fun (x7 : Int) =>
  (lt (x6 != x7) fun (x8 : Bool) =>
  (lt (if (x5 = Bool.true) then
  Bool.true
  else x8) fun (x9 : Bool) =>
  (if (x9 = Bool.true) then
  (Option.some ((Bool.false, ()), ()))
  else (shr (fun (x10 : (Unit × Unit)) => (Option.some ((Bool.true, ()), ()))) (fun (x10 : ((Unit × Unit) → (Option ((Bool × Unit) × Unit)))) => (loopN (d11_L2 x0 x10) x0 ((x4.1.1, (x3.1.1, ())), ((0 : Int), ()))))))))))))))))
theorem k11 : c_fn Try.prog ⟨[(30, ⟨s30, d30⟩), (32, ⟨s32, d32⟩), (33, ⟨s33, d33⟩)], ks0⟩ Try.f11 s11 h11 = some d11 := by kernel_rfl
/-- bulkhead/bulkheadlaw24.unchanged -/
def s12 : Sig := ⟨[(kIM, .val), (kIM, .val)], [(.bool, .val)]⟩
 def h12 : Hint := (.seq .leaf
   (.seq (.seq .leaf
   (.cond none
     (.seq .leaf
     .leaf)
     .leaf))
   (.seq (.seq .leaf
   (.block ⟨[], []⟩ true
     (.loop ⟨[((.ptr 26 kIM), (.ow .sh), (3, 0)), ((.ptr 26 kIM), (.ow .sh), (2, 0))], [((5, 0), (.val (.int .i64))), ((3, 0), (.own 0)), ((2, 0), (.own 1))]⟩
       (.seq (.seq .leaf
       (.cond none
         .leaf
         .leaf))
       (.seq (.block ⟨[((.ptr 26 kIM), (.ow .sh), (3, 0)), ((.ptr 26 kIM), (.ow .sh), (2, 0))], [((3, 0), (.own 0)), ((2, 0), (.own 1)), ((5, 0), (.val (.int .i64)))]⟩ true
         (.seq .leaf
         (.cond none
           (.seq .leaf
           .leaf)
           .leaf)))
       .leaf)))))
   (.seq .leaf
   .leaf))))
def d12_K1 (x5 : (((IM × (IM × Unit)) × (Int × Unit)) → (Option ((Bool × Unit) × Unit)))) : (((IM × (IM × Unit)) × (Int × Unit)) → (Option ((Bool × Unit) × Unit))) :=
  (fun (x9 : ((IM × (IM × Unit)) × (Int × Unit))) => (x5 ((x9.1.1, (x9.1.2.1, ())), ((Go.IntKind.wrap Go.IntKind.i64 (x9.2.1 + (1 : Int))), ()))))
def d12_L2 (x0 : Nat) (x4 : ((Unit × Unit) → (Option ((Bool × Unit) × Unit)))) : ((((IM × (IM × Unit)) × (Int × Unit)) → (Option ((Bool × Unit) × Unit))) → (((IM × (IM × Unit)) × (Int × Unit)) → (Option ((Bool × Unit) × Unit)))) :=
  (fun (x5 : (((IM × (IM × Unit)) × (Int × Unit)) → (Option ((Bool × Unit) × Unit)))) => (fun (x6 : ((IM × (IM × Unit)) × (Int × Unit))) => (lt (((List.length x6.1.2.1.1) : Nat) : Int) fun (x7 : Int) =>
  (lt (Decidable.decide (x6.2.1 < x7)) fun (x8 : Bool) =>
  (if (x8 = Bool.true) then
  (shr (d12_K1 x5) (fun (x9 : (((IM × (IM × Unit)) × (Int × Unit)) → (Option ((Bool × Unit) × Unit)))) => (if (((Decidable.decide ((0 : Int) ≤ x6.2.1)) && (Decidable.decide (x6.2.1 < (((List.length x6.1.2.1.1) : Nat) : Int)))) = Bool.true) then
  (lt (List.getD x6.1.2.1.1 (Int.toNat x6.2.1) (((0 : Int), ((0 : Int), ((0 : Int), ((0 : Int), ())))), ((0 : Int), ((0 : Int), (([] : List Int), (([] : List IS), (([] : List PC), ((0 : Int), ((List.replicate (8 : Nat) (0 : Int)), (([] : List I2), (([] : List Bool), (([] : List I2), ())))))))))))) fun (x10 : PA) =>
  (if (((Decidable.decide ((0 : Int) ≤ x6.2.1)) && (Decidable.decide (x6.2.1 < (((List.length x6.1.1.1) : Nat) : Int)))) = Bool.true) then
  (lt (List.getD x6.1.1.1 (Int.toNat x6.2.1) (((0 : Int), ((0 : Int), ((0 : Int), ((0 : Int), ())))), ((0 : Int), ((0 : Int), (([] : List Int), (([] : List IS), (([] : List PC), ((0 : Int), ((List.replicate (8 : Nat) (0 : Int)), (([] : List I2), (([] : List Bool), (([] : List I2), ())))))))))))) fun (x11 : PA) =>
  (Option.bind (d31 x0 (x10, (x11, ()))) fun (x12 : ((Bool × Unit) × Unit)) =>
  (lt (Bool.not x12.1.1) fun (x13 : Bool) =>
  (if (x13 = Bool.true) then
  (Option.some ((Bool.false, ()), ()))
  else (x9 ((x6.1.1, (x6.1.2.1, ())), (x6.2.1, ())))))))
  else (Option.none)))
  else (Option.none))))
  else (x4 ((), ())))))))
def d12 : (Nat → ((IM × (IM × Unit)) → (Option ((Bool × Unit) × Unit)))) :=
  (fun (x0 : Nat) => (fun (x1 : (IM × (IM × Unit))) => (Option.bind (d29 x0 (x1.1, (x1.2.1, ()))) fun (x2 : ((Bool × Unit) × Unit)) =>
  (lt (Bool.not x2.1.1) fun (x3 : Bool) =>
  (if (x3 = Bool.true) then
  (Option.some ((Bool.false, ()), ()))
  else (shr (fun (x4 : (Unit × Unit)) => (Option.some ((Bool.true, ()), ()))) (fun (x4 : ((Unit × Unit) → (Option ((Bool × Unit) × Unit)))) => (loopN (d12_L2 x0 x4) x0 ((x1.2.1, (x1.1, ())), ((0 : Int), ()))))))))))
theorem k12 : c_fn Try.prog ⟨[(29, ⟨s29, d29⟩), (31, ⟨s31, d31⟩)], ks0⟩ Try.f12 s12 h12 = some d12 := by kernel_rfl
/-- bulkhead/bulkheadlaw24.partMarks -/
def s34 : Sig := ⟨[(kWP, .val)], [(.bool, .val)]⟩
 def h34 : Hint := (.seq .leaf
   (.seq (.seq .leaf
   (.cond none
     (.seq .leaf
     .leaf)
     .leaf))
   (.seq (.seq .leaf
   (.cond none
     (.seq .leaf
     .leaf)
     .leaf))
   (.seq .leaf
   .leaf))))
def d34 : (Nat → ((WP × Unit) → (Option ((Bool × Unit) × Unit)))) :=
  (fun (x0 : Nat) => (fun (x1 : (WP × Unit)) => (lt (((List.length (List.take x1.1.2.2.2.1.2 x1.1.2.2.2.1.1)) : Nat) : Int) fun (x2 : Int) =>
  (if ((Decidable.decide ((((List.length x1.1.2.2.2.1.1) : Nat) : Int) > x2)) = Bool.true) then
  (lt (((List.length (List.take x1.1.2.2.2.2.1.2 x1.1.2.2.2.2.1.1)) : Nat) : Int) fun (x3 : Int) =>
  (if (((Bool.not ((Bool.false == Bool.false) && Bool.true)) || (Decidable.decide ((((List.length x1.1.2.2.2.2.1.1) : Nat) : Int) > x3))) = Bool.true) then
  (lt (if (Bool.false = Bool.true) then
  Bool.true
  else Bool.false) fun (x4 : Bool) =>
  (lt (((List.length (List.take x1.1.2.2.2.2.2.1.2 x1.1.2.2.2.2.2.1.1)) : Nat) : Int) fun (x5 : Int) =>
  (if (((Bool.not ((x4 == Bool.false) && Bool.true)) || (Decidable.decide ((((List.length x1.1.2.2.2.2.2.1.1) : Nat) : Int) > x5))) = Bool.true) then
  (lt (if (x4 = Bool.true) then
  Bool.true
  else Bool.false) fun (x6 : Bool) =>
  (lt (((List.length (List.take x1.1.2.2.2.2.2.2.2.2.1.2 x1.1.2.2.2.2.2.2.2.2.1.1)) : Nat) : Int) fun (x7 : Int) =>
  (if (((Bool.not ((x6 == Bool.false) && Bool.true)) || (Decidable.decide ((((List.length x1.1.2.2.2.2.2.2.2.2.1.1) : Nat) : Int) > x7))) = Bool.true) then
  (lt (if (x6 = Bool.true) then
  Bool.true
  else Bool.false) fun (x8 : Bool) =>
  (lt (((List.length (List.take x1.1.2.2.2.2.2.2.2.2.2.1.2 x1.1.2.2.2.2.2.2.2.2.2.1.1)) : Nat) : Int) fun (x9 : Int) =>
  (if (((Bool.not ((x8 == Bool.false) && Bool.true)) || (Decidable.decide ((((List.length x1.1.2.2.2.2.2.2.2.2.2.1.1) : Nat) : Int) > x9))) = Bool.true) then
  (lt (if (x8 = Bool.true) then
  Bool.true
  else Bool.false) fun (x10 : Bool) =>
  (lt (((List.length (List.take x1.1.2.2.2.2.2.2.2.2.2.2.1.2 x1.1.2.2.2.2.2.2.2.2.2.2.1.1)) : Nat) : Int) fun (x11 : Int) =>
  (if (((Bool.not ((x10 == Bool.false) && Bool.true)) || (Decidable.decide ((((List.length x1.1.2.2.2.2.2.2.2.2.2.2.1.1) : Nat) : Int) > x11))) = Bool.true) then
  (lt (if (x10 = Bool.true) then
  Bool.true
  else Bool.false) fun (x12 : Bool) =>
  (if (x12 = Bool.true) then
  (Option.some ((Bool.false, ()), ()))
  else (lt (((List.length (List.take x1.1.2.2.2.1.2 x1.1.2.2.2.1.1)) : Nat) : Int) fun (x13 : Int) =>
  (lt (Go.IntKind.wrap Go.IntKind.i64 (x13 + (1 : Int))) fun (x14 : Int) =>
  (if (((Decidable.decide ((0 : Int) ≤ x14)) && (Decidable.decide ((Int.toNat x14) ≤ (List.length x1.1.2.2.2.1.1)))) = Bool.true) then
  (lt (Int.toNat x14) fun (x15 : Nat) =>
  (lt (((List.length (List.take x1.1.2.2.2.1.2 x1.1.2.2.2.1.1)) : Nat) : Int) fun (x16 : Int) =>
  (if (((Decidable.decide ((0 : Int) ≤ x16)) && (Decidable.decide (x16 < (((List.length (List.take x15 x1.1.2.2.2.1.1)) : Nat) : Int)))) = Bool.true) then
  (lt (List.getD (List.take x15 x1.1.2.2.2.1.1) (Int.toNat x16) (0 : Int)) fun (x17 : Int) =>
  (lt (x17 != (Neg.neg (77 : Int))) fun (x18 : Bool) =>
  (lt (((List.length (List.take x1.1.2.2.2.2.1.2 x1.1.2.2.2.2.1.1)) : Nat) : Int) fun (x19 : Int) =>
  (lt (Go.IntKind.wrap Go.IntKind.i64 (x19 + (1 : Int))) fun (x20 : Int) =>
  (if (((Bool.not ((x18 == Bool.false) && Bool.true)) || ((Decidable.decide ((0 : Int) ≤ x20)) && (Decidable.decide ((Int.toNat x20) ≤ (List.length x1.1.2.2.2.2.1.1))))) = Bool.true) then
  (lt (Int.toNat x20) fun (x21 : Nat) =>
  (lt (((List.length (List.take x1.1.2.2.2.2.1.2 x1.1.2.2.2.2.1.1)) : Nat) : Int) fun (x22 : Int) =>
  (if (((Bool.not ((x18 == Bool.false) && Bool.true)) || ((Decidable.decide ((0 : Int) ≤ x22)) && (Decidable.decide (x22 < (((List.length (List.take x21 x1.1.2.2.2.2.1.1)) : Nat) : Int))))) = Bool.true) then
  (lt (List.getD (List.take x21 x1.1.2.2.2.2.1.1) (Int.toNat x22) ((0 : Int), ((0 : Int), ((0 : Int), ((0 : Int), ((0 : Int), ())))))).2.2.2.2.1 fun (x23 : Int) =>
  (lt (x23 != (Neg.neg (77 : Int))) fun (x24 : Bool) =>
  (lt (if (x18 = Bool.true) then
  Bool.true
  else x24) fun (x25 : Bool) =>
  (lt (((List.length (List.take x1.1.2.2.2.2.2.1.2 x1.1.2.2.2.2.2.1.1)) : Nat) : Int) fun (x26 : Int) =>
  (lt (Go.IntKind.wrap Go.IntKind.i64 (x26 + (1 : Int))) fun (x27 : Int) =>
  (if (((Bool.not ((x25 == Bool.false) && Bool.true)) || ((Decidable.decide ((0 : Int) ≤ x27)) && (Decidable.decide ((Int.toNat x27) ≤ (List.length x1.1.2.2.2.2.2.1.1))))) = Bool.true) then
  (lt (Int.toNat x27) fun (x28 : Nat) =>
  (lt (((List.length (List.take x1.1.2.2.2.2.2.1.2 x1.1.2.2.2.2.2.1.1)) : Nat) : Int) fun (x29 : Int) =>
  (if (((Bool.not ((x25 == Bool.false) && Bool.true)) || ((Decidable.decide ((0 : Int) ≤ x29)) && (Decidable.decide (x29 < (((List.length (List.take x28 x1.1.2.2.2.2.2.1.1)) : Nat) : Int))))) = Bool.true) then
  (lt (List.getD (List.take x28 x1.1.2.2.2.2.2.1.1) (Int.toNat x29) ((0 : Int), ((0 : Int), ((0 : Int), ((0 : Int), ((0 : Int), (Bool.false, ()))))))).1 fun (x30 : Int) =>
  (lt (x30 != (Neg.neg (77 : Int))) fun (x31 : Bool) =>
  (lt (if (x25 = Bool.true) then
  Bool.true
  else x31) fun (x32 : Bool) =>
  (if (x32 = Bool.true) then
  (Option.some ((Bool.false, ()), ()))
  else (lt (((List.length (List.take x1.1.2.2.2.2.2.2.2.2.1.2 x1.1.2.2.2.2.2.2.2.2.1.1)) : Nat) : Int) fun (x33 : Int) =>
  (lt (Go.IntKind.wrap Go.IntKind.i64 (x33 + (1 : Int))) fun (x34 : Int) =>
  (if (((Decidable.decide ((0 : Int) ≤ x34)) && (Decidable.decide ((Int.toNat x34) ≤ (List.length x1.1.2.2.2.2.2.2.2.2.1.1)))) = Bool.true) then
  (lt (Int.toNat x34) fun (x35 : Nat) =>
  (lt (((List.length (List.take x1.1.2.2.2.2.2.2.2.2.1.2 x1.1.2.2.2.2.2.2.2.2.1.1)) : Nat) : Int) fun (x36 : Int) =>
  (if (((Decidable.decide ((0 : Int) ≤ x36)) && (Decidable.decide (x36 < (((List.length (List.take x35 x1.1.2.2.2.2.2.2.2.2.1.1)) : Nat) : Int)))) = Bool.true) then
  (lt (List.getD (List.take x35 x1.1.2.2.2.2.2.2.2.2.1.1) (Int.toNat x36) ((0 : Int), ((0 : Int), ()))).1 fun (x37 : Int) =>
  (lt (x37 == (Neg.neg (77 : Int))) fun (x38 : Bool) =>
  (lt (((List.length (List.take x1.1.2.2.2.2.2.2.2.2.2.1.2 x1.1.2.2.2.2.2.2.2.2.2.1.1)) : Nat) : Int) fun (x39 : Int) =>
  (lt (Go.IntKind.wrap Go.IntKind.i64 (x39 + (1 : Int))) fun (x40 : Int) =>
  (if (((Bool.not ((x38 == Bool.true) && Bool.true)) || ((Decidable.decide ((0 : Int) ≤ x40)) && (Decidable.decide ((Int.toNat x40) ≤ (List.length x1.1.2.2.2.2.2.2.2.2.2.1.1))))) = Bool.true) then
  (lt (Int.toNat x40) fun (x41 : Nat) =>
  (lt (((List.length (List.take x1.1.2.2.2.2.2.2.2.2.2.1.2 x1.1.2.2.2.2.2.2.2.2.2.1.1)) : Nat) : Int) fun (x42 : Int) =>
  (if (((Bool.not ((x38 == Bool.true) && Bool.true)) || ((Decidable.decide ((0 : Int) ≤ x42)) && (Decidable.decide (x42 < (((List.length (List.take x41 x1.1.2.2.2.2.2.2.2.2.2.1.1)) : Nat) : Int))))) = Bool.true) then
  (lt (List.getD (List.take x41 x1.1.2.2.2.2.2.2.2.2.2.1.1) (Int.toNat x42) Bool.false) fun (x43 : Bool) =>
  (lt (if (x38 = Bool.true) then
  x43
  else Bool.false) fun (x44 : Bool) =>
  (lt (((List.length (List.take x1.1.2.2.2.2.2.2.2.2.2.2.1.2 x1.1.2.2.2.2.2.2.2.2.2.2.1.1)) : Nat) : Int) fun (x45 : Int) =>
  (lt (Go.IntKind.wrap Go.IntKind.i64 (x45 + (1 : Int))) fun (x46 : Int) =>
  (if (((Bool.not ((x44 == Bool.true) && Bool.true)) || ((Decidable.decide ((0 : Int) ≤ x46)) && (Decidable.decide ((Int.toNat x46) ≤ (List.length x1.1.2.2.2.2.2.2.2.2.2.2.1.1))))) = Bool.true) then
  (lt (Int.toNat x46) fun (x47 : Nat) =>
  (lt (((List.length (List.take x1.1.2.2.2.2.2.2.2.2.2.2.1.2 x1.1.2.2.2.2.2.2.2.2.2.2.1.1)) : Nat) : Int) fun (x48 : Int) =>
  (if (((Bool.not ((x44 == Bool.true) && Bool.true)) || ((Decidable.decide ((0 : Int) ≤ x48)) && (Decidable.decide (x48 < (((List.length (List.take x47 x1.1.2.2.2.2.2.2.2.2.2.2.1.1)) : Nat) : Int))))) = Bool.true) then
  (lt (List.getD (List.take x47 x1.1.2.2.2.2.2.2.2.2.2.2.1.1) (Int.toNat x48) ((0 : Int), ((0 : Int), ()))).1 fun (x49 : Int) =>
  (lt (x49 == (Neg.neg (77 : Int))) fun (x50 : Bool) =>
  (Option.some (((if (x44 = Bool.true) then
  x50
  else Bool.false), ()), ()))))
  else (Option.none))))
  else (Option.none))))))
  else (Option.none))))
  else (Option.none))))))
  else (Option.none))))
  else (Option.none))))))))
  else (Option.none))))
  else (Option.none)))))))
  else (Option.none))))
  else (Option.none))))))
  else (Option.none))))
  else (Option.none))))))
  else (Option.none))))
  else (Option.none))))
  else (Option.none))))
  else (Option.none))))
  else (Option.none)))
  else (Option.none)))))
theorem k34 : c_fn Try.prog ⟨[], ksW⟩ Try.f34 s34 h34 = some d34 := by kernel_rfl
/-- bulkhead/bulkheadlaw24.marks -/
def s13 : Sig := ⟨[(kWI, .val)], [(.bool, .val)]⟩
 def h13 : Hint := (.seq .leaf
   (.seq (.seq .leaf
   (.block ⟨[((.ptr 26 kWI), (.ow .sh), (1, 0))], [((1, 0), (.own 0))]⟩ true
     (.loop ⟨[((.ptr 26 kWI), (.ow .sh), (1, 0))], [((3, 0), (.val (.int .i64))), ((1, 0), (.own 0))]⟩
       (.seq (.seq .leaf
       (.cond none
         .leaf
         .leaf))
       (.seq (.block ⟨[((.ptr 26 kWI), (.ow .sh), (1, 0))], [((1, 0), (.own 0)), ((3, 0), (.val (.int .i64)))]⟩ true
         (.seq .leaf
         (.seq .leaf
         (.cond none
           (.seq .leaf
           .leaf)
           .leaf))))
       .leaf)))))
   (.seq (.seq .leaf
   (.block ⟨[((.ptr 26 kWI), (.ow .sh), (1, 0))], [((1, 0), (.own 0))]⟩ true
     (.loop ⟨[((.ptr 26 kWI), (.ow .sh), (1, 0))], [((5, 0), (.val (.int .i64))), ((1, 0), (.own 0))]⟩
       (.seq (.seq .leaf
       (.cond none
         .leaf
         .leaf))
       (.seq (.block ⟨[((.ptr 26 kWI), (.ow .sh), (1, 0))], [((1, 0), (.own 0)), ((5, 0), (.val (.int .i64)))]⟩ true
         (.seq .leaf
         (.seq .leaf
         (.cond none
           (.seq .leaf
           .leaf)
           .leaf))))
       .leaf)))))
   (.seq .leaf
   .leaf))))
def d13_K1  : (((WI × Unit) × Unit) → (Option ((Bool × Unit) × Unit))) :=
  (fun (x3 : ((WI × Unit) × Unit)) => (lt (((List.length (List.take x3.1.1.1.2 x3.1.1.1.1)) : Nat) : Int) fun (x4 : Int) =>
  (lt (Go.IntKind.wrap Go.IntKind.i64 (x4 + (1 : Int))) fun (x5 : Int) =>
  (if (((Decidable.decide ((0 : Int) ≤ x5)) && (Decidable.decide ((Int.toNat x5) ≤ (List.length x3.1.1.1.1)))) = Bool.true) then
  (lt (Int.toNat x5) fun (x6 : Nat) =>
  (lt (((List.length (List.take x3.1.1.1.2 x3.1.1.1.1)) : Nat) : Int) fun (x7 : Int) =>
  (if (((Decidable.decide ((0 : Int) ≤ x7)) && (Decidable.decide (x7 < (((List.length (List.take x6 x3.1.1.1.1)) : Nat) : Int)))) = Bool.true) then
  (lt (List.getD (List.take x6 x3.1.1.1.1) (Int.toNat x7) (((0 : Int), ((0 : Int), ((0 : Int), ((0 : Int), ())))), ((0 : Int), ((0 : Int), ((([] : List Int), (0 : Nat)), ((([] : List IS), (0 : Nat)), ((([] : List PC), (0 : Nat)), ((0 : Int), ((List.replicate (8 : Nat) (0 : Int)), ((([] : List I2), (0 : Nat)), ((([] : List Bool), (0 : Nat)), ((([] : List I2), (0 : Nat)), ())))))))))))).2.1 fun (x8 : Int) =>
  (lt (x8 == (Neg.neg (77 : Int))) fun (x9 : Bool) =>
  (lt (((List.length (List.take x3.1.1.2.1.2 x3.1.1.2.1.1)) : Nat) : Int) fun (x10 : Int) =>
  (lt (Go.IntKind.wrap Go.IntKind.i64 (x10 + (1 : Int))) fun (x11 : Int) =>
  (if (((Bool.not ((x9 == Bool.true) && Bool.true)) || ((Decidable.decide ((0 : Int) ≤ x11)) && (Decidable.decide ((Int.toNat x11) ≤ (List.length x3.1.1.2.1.1))))) = Bool.true) then
  (lt (Int.toNat x11) fun (x12 : Nat) =>
  (lt (((List.length (List.take x3.1.1.2.1.2 x3.1.1.2.1.1)) : Nat) : Int) fun (x13 : Int) =>
  (if (((Bool.not ((x9 == Bool.true) && Bool.true)) || ((Decidable.decide ((0 : Int) ≤ x13)) && (Decidable.decide (x13 < (((List.length (List.take x12 x3.1.1.2.1.1)) : Nat) : Int))))) = Bool.true) then
  (lt (List.getD (List.take x12 x3.1.1.2.1.1) (Int.toNat x13) ((0 : Int), ((0 : Int), (Bool.false, ((0 : Int), ((0 : Int), ((0 : Int), ()))))))).2.2.2.1 fun (x14 : Int) =>
  (lt (x14 == (Neg.neg (77 : Int))) fun (x15 : Bool) =>
  (lt (if (x9 = Bool.true) then
  x15
  else Bool.false) fun (x16 : Bool) =>
  (lt (((List.length (List.take x3.1.1.2.2.1.2 x3.1.1.2.2.1.1)) : Nat) : Int) fun (x17 : Int) =>
  (lt (Go.IntKind.wrap Go.IntKind.i64 (x17 + (1 : Int))) fun (x18 : Int) =>
  (if (((Bool.not ((x16 == Bool.true) && Bool.true)) || ((Decidable.decide ((0 : Int) ≤ x18)) && (Decidable.decide ((Int.toNat x18) ≤ (List.length x3.1.1.2.2.1.1))))) = Bool.true) then
  (lt (Int.toNat x18) fun (x19 : Nat) =>
  (lt (((List.length (List.take x3.1.1.2.2.1.2 x3.1.1.2.2.1.1)) : Nat) : Int) fun (x20 : Int) =>
  (if (((Bool.not ((x16 == Bool.true) && Bool.true)) || ((Decidable.decide ((0 : Int) ≤ x20)) && (Decidable.decide (x20 < (((List.length (List.take x19 x3.1.1.2.2.1.1)) : Nat) : Int))))) = Bool.true) then
  (lt (List.getD (List.take x19 x3.1.1.2.2.1.1) (Int.toNat x20) ((0 : Int), ((0 : Int), ((([] : List Int), (0 : Nat)), ((0 : Int), ((0 : Int), ())))))).2.2.2.1 fun (x21 : Int) =>
  (lt (x21 == (Neg.neg (77 : Int))) fun (x22 : Bool) =>
  (Option.some (((if (x16 = Bool.true) then
  x22
  else Bool.false), ()), ()))))
  else (Option.none))))
  else (Option.none)))))))
  else (Option.none))))
  else (Option.none))))))
  else (Option.none))))
  else (Option.none)))))
def d13_K2 (x4 : (((WI × Unit) × (Int × Unit)) → (Option ((Bool × Unit) × Unit)))) : (((WI × Unit) × (Int × Unit)) → (Option ((Bool × Unit) × Unit))) :=
  (fun (x8 : ((WI × Unit) × (Int × Unit))) => (x4 ((x8.1.1, ()), ((Go.IntKind.wrap Go.IntKind.i64 (x8.2.1 + (1 : Int))), ()))))
def d13_L3 (x3 : (((WI × Unit) × Unit) → (Option ((Bool × Unit) × Unit)))) : ((((WI × Unit) × (Int × Unit)) → (Option ((Bool × Unit) × Unit))) → (((WI × Unit) × (Int × Unit)) → (Option ((Bool × Unit) × Unit)))) :=
  (fun (x4 : (((WI × Unit) × (Int × Unit)) → (Option ((Bool × Unit) × Unit)))) => (fun (x5 : ((WI × Unit) × (Int × Unit))) => (lt (((List.length (List.take x5.1.1.2.2.1.2 x5.1.1.2.2.1.1)) : Nat) : Int) fun (x6 : Int) =>
  (lt (Decidable.decide (x5.2.1 < x6)) fun (x7 : Bool) =>
  (if (x7 = Bool.true) then
  (shr (d13_K2 x4) (fun (x8 : (((WI × Unit) × (Int × Unit)) → (Option ((Bool × Unit) × Unit)))) => (if (((Decidable.decide ((0 : Int) ≤ x5.2.1)) && (Decidable.decide (x5.2.1 < (((List.length (List.take x5.1.1.2.2.1.2 x5.1.1.2.2.1.1)) : Nat) : Int)))) = Bool.true) then
  (lt (List.getD (List.take x5.1.1.2.2.1.2 x5.1.1.2.2.1.1) (Int.toNat x5.2.1) ((0 : Int), ((0 : Int), ((([] : List Int), (0 : Nat)), ((0 : Int), ((0 : Int), ())))))).2.2.1 fun (x9 : ((List Int) × Nat)) =>
  (lt (((List.length (List.take x9.2 x9.1)) : Nat) : Int) fun (x10 : Int) =>
  (if ((Decidable.decide ((((List.length x9.1) : Nat) : Int) > x10)) = Bool.true) then
  (lt (((List.length (List.take x9.2 x9.1)) : Nat) : Int) fun (x11 : Int) =>
  (lt (Go.IntKind.wrap Go.IntKind.i64 (x11 + (1 : Int))) fun (x12 : Int) =>
  (if (((Bool.not ((Bool.false == Bool.false) && Bool.true)) || ((Decidable.decide ((0 : Int) ≤ x12)) && (Decidable.decide ((Int.toNat x12) ≤ (List.length x9.1))))) = Bool.true) then
  (lt (Int.toNat x12) fun (x13 : Nat) =>
  (lt (((List.length (List.take x9.2 x9.1)) : Nat) : Int) fun (x14 : Int) =>
  (if (((Bool.not ((Bool.false == Bool.false) && Bool.true)) || ((Decidable.decide ((0 : Int) ≤ x14)) && (Decidable.decide (x14 < (((List.length (List.take x13 x9.1)) : Nat) : Int))))) = Bool.true) then
  (lt (List.getD (List.take x13 x9.1) (Int.toNat x14) (0 : Int)) fun (x15 : Int) =>
  (lt (x15 != (Neg.neg (77 : Int))) fun (x16 : Bool) =>
  (lt (if (Bool.false = Bool.true) then
  Bool.true
  else x16) fun (x17 : Bool) =>
  (if (x17 = Bool.true) then
  (Option.some ((Bool.false, ()), ()))
  else (x8 ((x5.1.1, ()), (x5.2.1, ())))))))
  else (Option.none))))
  else (Option.none))))
  else (Option.none))))
  else (Option.none))))
  else (x3 ((x5.1.1, ()), ())))))))
def d13_K4 (x0 : Nat) : (((WI × Unit) × Unit) → (Option ((Bool × Unit) × Unit))) :=
  (fun (x2 : ((WI × Unit) × Unit)) => (shr d13_K1 (fun (x3 : (((WI × Unit) × Unit) → (Option ((Bool × Unit) × Unit)))) => (loopN (d13_L3 x3) x0 ((x2.1.1, ()), ((0 : Int), ()))))))
def d13_K5 (x3 : (((WI × Unit) × (Int × Unit)) → (Option ((Bool × Unit) × Unit)))) : (((WI × Unit) × (Int × Unit)) → (Option ((Bool × Unit) × Unit))) :=
  (fun (x7 : ((WI × Unit) × (Int × Unit))) => (x3 ((x7.1.1, ()), ((Go.IntKind.wrap Go.IntKind.i64 (x7.2.1 + (1 : Int))), ()))))
def d13_L6 (x0 : Nat) (x2 : (((WI × Unit) × Unit) → (Option ((Bool × Unit) × Unit)))) : ((((WI × Unit) × (Int × Unit)) → (Option ((Bool × Unit) × Unit))) → (((WI × Unit) × (Int × Unit)) → (Option ((Bool × Unit) × Unit)))) :=
  (fun (x3 : (((WI × Unit) × (Int × Unit)) → (Option ((Bool × Unit) × Unit)))) => (fun (x4 : ((WI × Unit) × (Int × Unit))) => (lt (((List.length (List.take x4.1.1.1.2 x4.1.1.1.1)) : Nat) : Int) fun (x5 : Int) =>
  (lt (Decidable.decide (x4.2.1 < x5)) fun (x6 : Bool) =>
  (if (x6 = Bool.true) then
  (shr (d13_K5 x3) (fun (x7 : (((WI × Unit) × (Int × Unit)) → (Option ((Bool × Unit) × Unit)))) => (if (((Decidable.decide ((0 : Int) ≤ x4.2.1)) && (Decidable.decide (x4.2.1 < (((List.length (List.take x4.1.1.1.2 x4.1.1.1.1)) : Nat) : Int)))) = Bool.true) then
  (lt (List.getD (List.take x4.1.1.1.2 x4.1.1.1.1) (Int.toNat x4.2.1) (((0 : Int), ((0 : Int), ((0 : Int), ((0 : Int), ())))), ((0 : Int), ((0 : Int), ((([] : List Int), (0 : Nat)), ((([] : List IS), (0 : Nat)), ((([] : List PC), (0 : Nat)), ((0 : Int), ((List.replicate (8 : Nat) (0 : Int)), ((([] : List I2), (0 : Nat)), ((([] : List Bool), (0 : Nat)), ((([] : List I2), (0 : Nat)), ())))))))))))) fun (x8 : WP) =>
  (Option.bind (d34 x0 (x8, ())) fun (x9 : ((Bool × Unit) × Unit)) =>
  (lt (Bool.not x9.1.1) fun (x10 : Bool) =>
  (if (x10 = Bool.true) then
  (Option.some ((Bool.false, ()), ()))
  else (x7 ((x4.1.1, ()), (x4.2.1, ())))))))
  else (Option.none))))
  else (x2 ((x4.1.1, ()), ())))))))
def d13 : (Nat → ((WI × Unit) → (Option ((Bool × Unit) × Unit)))) :=
  (fun (x0 : Nat) => (fun (x1 : (WI × Unit)) => (shr (d13_K4 x0) (fun (x2 : (((WI × Unit) × Unit) → (Option ((Bool × Unit) × Unit)))) => (loopN (d13_L6 x0 x2) x0 ((x1.1, ()), ((0 : Int), ())))))))
theorem k13 : c_fn Try.prog ⟨[(34, ⟨s34, d34⟩)], ksW⟩ Try.f13 s13 h13 = some d13 := by kernel_rfl
/-- bulkhead/bulkheadlaw24.inputsPlaced -/
def s14 : Sig := ⟨[(kWI, .val), ((.win (.sl 66 kWN)), .val), ((.win (.sl 66 kWN)), .val), ((.int .i64), .val)], [(.bool, .val)]⟩
 def h14 : Hint := (.seq .leaf
   (.seq .leaf
   (.seq (.seq .leaf
   (.block ⟨[((.win (.sl 66 kWN)), (.ow .sh), (9, 0)), ((.ptr 26 kWI), (.ow .sh), (4, 0)), ((.win (.sl 66 kWN)), (.ow .sh), (10, 0))], [((1, 0), (.val (.win (.sl 66 kWN)))), ((9, 0), (.own 0)), ((3, 0), (.val (.int .i64))), ((2, 0), (.val (.win (.sl 66 kWN)))), ((4, 0), (.own 1)), ((10, 0), (.own 2))]⟩ true
     (.loop ⟨[((.win (.sl 66 kWN)), (.ow .sh), (10, 0)), ((.win (.sl 66 kWN)), (.ow .sh), (9, 0)), ((.ptr 26 kWI), (.ow .sh), (4, 0))], [((11, 0), (.val (.int .i64))), ((1, 0), (.val (.win (.sl 66 kWN)))), ((10, 0), (.own 0)), ((9, 0), (.own 1)), ((3, 0), (.val (.int .i64))), ((2, 0), (.val (.win (.sl 66 kWN)))), ((4, 0), (.own 2))]⟩
       (.seq (.seq .leaf
       (.cond none
         .leaf
         .leaf))
       (.seq (.block ⟨[((.win (.sl 66 kWN)), (.ow .sh), (10, 0)), ((.win (.sl 66 kWN)), (.ow .sh), (9, 0)), ((.ptr 26 kWI), (.ow .sh), (4, 0))], [((1, 0), (.val (.win (.sl 66 kWN)))), ((10, 0), (.own 0)), ((9, 0), (.own 1)), ((3, 0), (.val (.int .i64))), ((2, 0), (.val (.win (.sl 66 kWN)))), ((4, 0), (.own 2)), ((11, 0), (.val (.int .i64)))]⟩ true
         (.seq .leaf
         .leaf))
       .leaf)))))
   (.seq .leaf
   (.seq (.seq .leaf
   (.block ⟨[((.ptr 26 kWI), (.ow .sh), (4, 0)), ((.win (.sl 66 kWN)), (.ow .sh), (10, 0)), ((.win (.sl 66 kWN)), (.ow .sh), (9, 0))], [((3, 0), (.val (.int .i64))), ((2, 0), (.val (.win (.sl 66 kWN)))), ((1, 0), (.val (.win (.sl 66 kWN)))), ((4, 0), (.own 0)), ((10, 0), (.own 1)), ((12, 0), (.val .bool)), ((9, 0), (.own 2))]⟩ true
     (.loop ⟨[((.win (.sl 66 kWN)), (.ow .sh), (9, 0)), ((.ptr 26 kWI), (.ow .sh), (4, 0)), ((.win (.sl 66 kWN)), (.ow .sh), (10, 0))], [((14, 0), (.val (.int .i64))), ((1, 0), (.val (.win (.sl 66 kWN)))), ((9, 0), (.own 0)), ((3, 0), (.val (.int .i64))), ((2, 0), (.val (.win (.sl 66 kWN)))), ((4, 0), (.own 1)), ((10, 0), (.own 2)), ((12, 0), (.val .bool))]⟩
       (.seq (.seq .leaf
       (.cond none
         .leaf
         .leaf))
       (.seq (.block ⟨[((.win (.sl 66 kWN)), (.ow .sh), (9, 0)), ((.ptr 26 kWI), (.ow .sh), (4, 0)), ((.win (.sl 66 kWN)), (.ow .sh), (10, 0))], [((1, 0), (.val (.win (.sl 66 kWN)))), ((9, 0), (.own 0)), ((3, 0), (.val (.int .i64))), ((2, 0), (.val (.win (.sl 66 kWN)))), ((4, 0), (.own 1)), ((10, 0), (.own 2)), ((12, 0), (.val .bool)), ((14, 0), (.val (.int .i64)))]⟩ true
         .leaf)
       .leaf)))))
   (.seq .leaf
   (.seq .leaf
   .leaf)))))))
def d14_K1 (x0 : Nat) : (((WI × (((List WN) × Nat) × (((List WN) × Nat) × Unit))) × (Int × (((List WN) × Nat) × (((List WN) × Nat) × (Bool × Unit))))) → (Option ((Bool × Unit) × Unit))) :=
  (fun (x4 : ((WI × (((List WN) × Nat) × (((List WN) × Nat) × Unit))) × (Int × (((List WN) × Nat) × (((List WN) × Nat) × (Bool × Unit)))))) => (Option.bind (d8 x0 (((List.map (fun (x5 : WP) => ((x5.1.1, (x5.1.2.1, (x5.1.2.2.1, (x5.1.2.2.2.1, x5.1.2.2.2.2)))), (x5.2.1, (x5.2.2.1, ((List.map (fun (x6 : Int) => x6) (List.take x5.2.2.2.1.2 x5.2.2.2.1.1)), ((List.map (fun (x6 : IS) => (x6.1, (x6.2.1, (x6.2.2.1, (x6.2.2.2.1, (x6.2.2.2.2.1, x6.2.2.2.2.2)))))) (List.take x5.2.2.2.2.1.2 x5.2.2.2.2.1.1)), ((List.map (fun (x6 : PC) => (x6.1, (x6.2.1, (x6.2.2.1, (x6.2.2.2.1, (x6.2.2.2.2.1, (x6.2.2.2.2.2.1, x6.2.2.2.2.2.2))))))) (List.take x5.2.2.2.2.2.1.2 x5.2.2.2.2.2.1.1)), (x5.2.2.2.2.2.2.1, ((List.map (fun (x6 : Int) => x6) x5.2.2.2.2.2.2.2.1), ((List.map (fun (x6 : I2) => (x6.1, (x6.2.1, x6.2.2))) (List.take x5.2.2.2.2.2.2.2.2.1.2 x5.2.2.2.2.2.2.2.2.1.1)), ((List.map (fun (x6 : Bool) => x6) (List.take x5.2.2.2.2.2.2.2.2.2.1.2 x5.2.2.2.2.2.2.2.2.2.1.1)), ((List.map (fun (x6 : I2) => (x6.1, (x6.2.1, x6.2.2))) (List.take x5.2.2.2.2.2.2.2.2.2.2.1.2 x5.2.2.2.2.2.2.2.2.2.2.1.1)), x5.2.2.2.2.2.2.2.2.2.2.2)))))))))))) (List.take x4.1.1.1.2 x4.1.1.1.1)), ((List.map (fun (x5 : PO) => (x5.1, (x5.2.1, (x5.2.2.1, (x5.2.2.2.1, (x5.2.2.2.2.1, (x5.2.2.2.2.2.1, x5.2.2.2.2.2.2))))))) (List.take x4.1.1.2.1.2 x4.1.1.2.1.1)), ((List.map (fun (x5 : WC) => (x5.1, (x5.2.1, ((List.map (fun (x6 : Int) => x6) (List.take x5.2.2.1.2 x5.2.2.1.1)), (x5.2.2.2.1, (x5.2.2.2.2.1, x5.2.2.2.2.2)))))) (List.take x4.1.1.2.2.1.2 x4.1.1.2.2.1.1)), x4.1.1.2.2.2))), ((List.map (fun (x5 : WN) => (x5.1, (x5.2.1, (x5.2.2.1, ((List.map (fun (x6 : Int) => x6) (List.take x5.2.2.2.1.2 x5.2.2.2.1.1)), x5.2.2.2.2))))) (List.take x4.1.2.2.1.2 x4.1.2.2.1.1)), ((List.map (fun (x5 : WN) => (x5.1, (x5.2.1, (x5.2.2.1, ((List.map (fun (x6 : Int) => x6) (List.take x5.2.2.2.1.2 x5.2.2.2.1.1)), x5.2.2.2.2))))) (List.take x4.2.2.1.2 x4.2.2.1.1)), (x4.2.1, ()))))) fun (x5 : ((Bool × (Int × Unit)) × Unit)) =>
  (Option.bind (d11 x0 (((List.map (fun (x6 : WP) => ((x6.1.1, (x6.1.2.1, (x6.1.2.2.1, (x6.1.2.2.2.1, x6.1.2.2.2.2)))), (x6.2.1, (x6.2.2.1, ((List.map (fun (x7 : Int) => x7) (List.take x6.2.2.2.1.2 x6.2.2.2.1.1)), ((List.map (fun (x7 : IS) => (x7.1, (x7.2.1, (x7.2.2.1, (x7.2.2.2.1, (x7.2.2.2.2.1, x7.2.2.2.2.2)))))) (List.take x6.2.2.2.2.1.2 x6.2.2.2.2.1.1)), ((List.map (fun (x7 : PC) => (x7.1, (x7.2.1, (x7.2.2.1, (x7.2.2.2.1, (x7.2.2.2.2.1, (x7.2.2.2.2.2.1, x7.2.2.2.2.2.2))))))) (List.take x6.2.2.2.2.2.1.2 x6.2.2.2.2.2.1.1)), (x6.2.2.2.2.2.2.1, ((List.map (fun (x7 : Int) => x7) x6.2.2.2.2.2.2.2.1), ((List.map (fun (x7 : I2) => (x7.1, (x7.2.1, x7.2.2))) (List.take x6.2.2.2.2.2.2.2.2.1.2 x6.2.2.2.2.2.2.2.2.1.1)), ((List.map (fun (x7 : Bool) => x7) (List.take x6.2.2.2.2.2.2.2.2.2.1.2 x6.2.2.2.2.2.2.2.2.2.1.1)), ((List.map (fun (x7 : I2) => (x7.1, (x7.2.1, x7.2.2))) (List.take x6.2.2.2.2.2.2.2.2.2.2.1.2 x6.2.2.2.2.2.2.2.2.2.2.1.1)), x6.2.2.2.2.2.2.2.2.2.2.2)))))))))))) (List.take x4.1.1.1.2 x4.1.1.1.1)), ((List.map (fun (x6 : PO) => (x6.1, (x6.2.1, (x6.2.2.1, (x6.2.2.2.1, (x6.2.2.2.2.1, (x6.2.2.2.2.2.1, x6.2.2.2.2.2.2))))))) (List.take x4.1.1.2.1.2 x4.1.1.2.1.1)), ((List.map (fun (x6 : WC) => (x6.1, (x6.2.1, ((List.map (fun (x7 : Int) => x7) (List.take x6.2.2.1.2 x6.2.2.1.1)), (x6.2.2.2.1, (x6.2.2.2.2.1, x6.2.2.2.2.2)))))) (List.take x4.1.1.2.2.1.2 x4.1.1.2.2.1.1)), x4.1.1.2.2.2))), ((List.map (fun (x6 : WN) => (x6.1, (x6.2.1, (x6.2.2.1, ((List.map (fun (x7 : Int) => x7) (List.take x6.2.2.2.1.2 x6.2.2.2.1.1)), x6.2.2.2.2))))) (List.take x4.1.2.1.2 x4.1.2.1.1)), ((List.map (fun (x6 : WN) => (x6.1, (x6.2.1, (x6.2.2.1, ((List.map (fun (x7 : Int) => x7) (List.take x6.2.2.2.1.2 x6.2.2.2.1.1)), x6.2.2.2.2))))) (List.take x4.2.2.1.2 x4.2.2.1.1)), (x4.2.1, ()))))) fun (x6 : ((Bool × Unit) × Unit)) =>
  (lt (x4.2.2.2.2.1 == x6.1.1) fun (x7 : Bool) =>
  (Option.bind (if (((x7 == Bool.true) && Bool.true) = Bool.true) then
  (d11 x0 (((List.map (fun (x8 : WP) => ((x8.1.1, (x8.1.2.1, (x8.1.2.2.1, (x8.1.2.2.2.1, x8.1.2.2.2.2)))), (x8.2.1, (x8.2.2.1, ((List.map (fun (x9 : Int) => x9) (List.take x8.2.2.2.1.2 x8.2.2.2.1.1)), ((List.map (fun (x9 : IS) => (x9.1, (x9.2.1, (x9.2.2.1, (x9.2.2.2.1, (x9.2.2.2.2.1, x9.2.2.2.2.2)))))) (List.take x8.2.2.2.2.1.2 x8.2.2.2.2.1.1)), ((List.map (fun (x9 : PC) => (x9.1, (x9.2.1, (x9.2.2.1, (x9.2.2.2.1, (x9.2.2.2.2.1, (x9.2.2.2.2.2.1, x9.2.2.2.2.2.2))))))) (List.take x8.2.2.2.2.2.1.2 x8.2.2.2.2.2.1.1)), (x8.2.2.2.2.2.2.1, ((List.map (fun (x9 : Int) => x9) x8.2.2.2.2.2.2.2.1), ((List.map (fun (x9 : I2) => (x9.1, (x9.2.1, x9.2.2))) (List.take x8.2.2.2.2.2.2.2.2.1.2 x8.2.2.2.2.2.2.2.2.1.1)), ((List.map (fun (x9 : Bool) => x9) (List.take x8.2.2.2.2.2.2.2.2.2.1.2 x8.2.2.2.2.2.2.2.2.2.1.1)), ((List.map (fun (x9 : I2) => (x9.1, (x9.2.1, x9.2.2))) (List.take x8.2.2.2.2.2.2.2.2.2.2.1.2 x8.2.2.2.2.2.2.2.2.2.2.1.1)), x8.2.2.2.2.2.2.2.2.2.2.2)))))))))))) (List.take x4.1.1.1.2 x4.1.1.1.1)), ((List.map (fun (x8 : PO) => (x8.1, (x8.2.1, (x8.2.2.1, (x8.2.2.2.1, (x8.2.2.2.2.1, (x8.2.2.2.2.2.1, x8.2.2.2.2.2.2))))))) (List.take x4.1.1.2.1.2 x4.1.1.2.1.1)), ((List.map (fun (x8 : WC) => (x8.1, (x8.2.1, ((List.map (fun (x9 : Int) => x9) (List.take x8.2.2.1.2 x8.2.2.1.1)), (x8.2.2.2.1, (x8.2.2.2.2.1, x8.2.2.2.2.2)))))) (List.take x4.1.1.2.2.1.2 x4.1.1.2.2.1.1)), x4.1.1.2.2.2))), ((List.map (fun (x8 : WN) => (x8.1, (x8.2.1, (x8.2.2.1, ((List.map (fun (x9 : Int) => x9) (List.take x8.2.2.2.1.2 x8.2.2.2.1.1)), x8.2.2.2.2))))) (List.take x4.2.2.2.1.2 x4.2.2.2.1.1)), ((List.map (fun (x8 : WN) => (x8.1, (x8.2.1, (x8.2.2.1, ((List.map (fun (x9 : Int) => x9) (List.take x8.2.2.2.1.2 x8.2.2.2.1.1)), x8.2.2.2.2))))) (List.take x4.2.2.1.2 x4.2.2.1.1)), (x4.2.1, ())))))
  else (Option.some ((Bool.false, ()), ()))) fun (x8 : ((Bool × Unit) × Unit)) =>
  (lt (x5.1.1 == x8.1.1) fun (x9 : Bool) =>
  (Option.some (((if (x7 = Bool.true) then
  x9
  else Bool.false), ()), ()))))))))
def d14_K2 (x5 : (((((List WN) × Nat) × (WI × (((List WN) × Nat) × Unit))) × (Int × (((List WN) × Nat) × (Int × (((List WN) × Nat) × (Bool × Unit)))))) → (Option ((Bool × Unit) × Unit)))) : (((((List WN) × Nat) × (WI × (((List WN) × Nat) × Unit))) × (((List WN) × Nat) × (Int × (((List WN) × Nat) × (Bool × (Int × Unit)))))) → (Option ((Bool × Unit) × Unit))) :=
  (fun (x9 : ((((List WN) × Nat) × (WI × (((List WN) × Nat) × Unit))) × (((List WN) × Nat) × (Int × (((List WN) × Nat) × (Bool × (Int × Unit))))))) => (x5 ((x9.1.1, (x9.1.2.1, (x9.1.2.2.1, ()))), ((Go.IntKind.wrap Go.IntKind.i64 (x9.2.2.2.2.2.1 + (1 : Int))), (x9.2.1, (x9.2.2.1, (x9.2.2.2.1, (x9.2.2.2.2.1, ()))))))))
def d14_L3 (x4 : (((WI × (((List WN) × Nat) × (((List WN) × Nat) × Unit))) × (Int × (((List WN) × Nat) × (((List WN) × Nat) × (Bool × Unit))))) → (Option ((Bool × Unit) × Unit)))) : ((((((List WN) × Nat) × (WI × (((List WN) × Nat) × Unit))) × (Int × (((List WN) × Nat) × (Int × (((List WN) × Nat) × (Bool × Unit)))))) → (Option ((Bool × Unit) × Unit))) → (((((List WN) × Nat) × (WI × (((List WN) × Nat) × Unit))) × (Int × (((List WN) × Nat) × (Int × (((List WN) × Nat) × (Bool × Unit)))))) → (Option ((Bool × Unit) × Unit)))) :=
  (fun (x5 : (((((List WN) × Nat) × (WI × (((List WN) × Nat) × Unit))) × (Int × (((List WN) × Nat) × (Int × (((List WN) × Nat) × (Bool × Unit)))))) → (Option ((Bool × Unit) × Unit)))) => (fun (x6 : ((((List WN) × Nat) × (WI × (((List WN) × Nat) × Unit))) × (Int × (((List WN) × Nat) × (Int × (((List WN) × Nat) × (Bool × Unit))))))) => (lt ((x6.1.1.2 : Nat) : Int) fun (x7 : Int) =>
  (lt (Decidable.decide (x6.2.1 < x7)) fun (x8 : Bool) =>
  (if (x8 = Bool.true) then
  (shr (d14_K2 x5) (fun (x9 : (((((List WN) × Nat) × (WI × (((List WN) × Nat) × Unit))) × (((List WN) × Nat) × (Int × (((List WN) × Nat) × (Bool × (Int × Unit)))))) → (Option ((Bool × Unit) × Unit)))) => (if (((Decidable.decide ((0 : Int) ≤ x6.2.1)) && (Decidable.decide (x6.2.1 < (((List.length (List.take x6.2.2.1.2 x6.2.2.1.1)) : Nat) : Int)))) = Bool.true) then
  (lt (List.getD (List.take x6.2.2.1.2 x6.2.2.1.1) (Int.toNat x6.2.1) ((0 : Int), ((0 : Int), ((0 : Int), ((([] : List Int), (0 : Nat)), ()))))) fun (x10 : WN) =>
  (if (((Decidable.decide ((0 : Int) ≤ x6.2.1)) && (Decidable.decide (x6.2.1 < ((x6.1.1.2 : Nat) : Int)))) = Bool.true) then
  (if (((Decidable.decide ((Int.toNat x6.2.1) < x6.1.1.2)) && ((Decidable.decide ((Int.toNat x6.2.1) < (List.length x6.1.1.1))) && Bool.true)) = Bool.true) then
  (x9 ((((List.set x6.1.1.1 (Int.toNat x6.2.1) x10), x6.1.1.2), (x6.1.2.1, (x6.1.2.2.1, ()))), (x6.2.2.1, (x6.2.2.2.1, (x6.2.2.2.2.1, (x6.2.2.2.2.2.1, (x6.2.1, ())))))))
  else (Option.none))
  else (Option.none)))
  else (Option.none))))
  else (x4 ((x6.1.2.1, (x6.1.2.2.1, (x6.1.1, ()))), (x6.2.2.2.1, (x6.2.2.2.2.1, (x6.2.2.1, (x6.2.2.2.2.2.1, ())))))))))))
def d14_K4 (x0 : Nat) : (((((List WN) × Nat) × (WI × (((List WN) × Nat) × Unit))) × (((List WN) × Nat) × (Int × (((List WN) × Nat) × Unit)))) → (Option ((Bool × Unit) × Unit))) :=
  (fun (x2 : ((((List WN) × Nat) × (WI × (((List WN) × Nat) × Unit))) × (((List WN) × Nat) × (Int × (((List WN) × Nat) × Unit))))) => (Option.bind (d8 x0 (((List.map (fun (x3 : WP) => ((x3.1.1, (x3.1.2.1, (x3.1.2.2.1, (x3.1.2.2.2.1, x3.1.2.2.2.2)))), (x3.2.1, (x3.2.2.1, ((List.map (fun (x4 : Int) => x4) (List.take x3.2.2.2.1.2 x3.2.2.2.1.1)), ((List.map (fun (x4 : IS) => (x4.1, (x4.2.1, (x4.2.2.1, (x4.2.2.2.1, (x4.2.2.2.2.1, x4.2.2.2.2.2)))))) (List.take x3.2.2.2.2.1.2 x3.2.2.2.2.1.1)), ((List.map (fun (x4 : PC) => (x4.1, (x4.2.1, (x4.2.2.1, (x4.2.2.2.1, (x4.2.2.2.2.1, (x4.2.2.2.2.2.1, x4.2.2.2.2.2.2))))))) (List.take x3.2.2.2.2.2.1.2 x3.2.2.2.2.2.1.1)), (x3.2.2.2.2.2.2.1, ((List.map (fun (x4 : Int) => x4) x3.2.2.2.2.2.2.2.1), ((List.map (fun (x4 : I2) => (x4.1, (x4.2.1, x4.2.2))) (List.take x3.2.2.2.2.2.2.2.2.1.2 x3.2.2.2.2.2.2.2.2.1.1)), ((List.map (fun (x4 : Bool) => x4) (List.take x3.2.2.2.2.2.2.2.2.2.1.2 x3.2.2.2.2.2.2.2.2.2.1.1)), ((List.map (fun (x4 : I2) => (x4.1, (x4.2.1, x4.2.2))) (List.take x3.2.2.2.2.2.2.2.2.2.2.1.2 x3.2.2.2.2.2.2.2.2.2.2.1.1)), x3.2.2.2.2.2.2.2.2.2.2.2)))))))))))) (List.take x2.1.2.1.1.2 x2.1.2.1.1.1)), ((List.map (fun (x3 : PO) => (x3.1, (x3.2.1, (x3.2.2.1, (x3.2.2.2.1, (x3.2.2.2.2.1, (x3.2.2.2.2.2.1, x3.2.2.2.2.2.2))))))) (List.take x2.1.2.1.2.1.2 x2.1.2.1.2.1.1)), ((List.map (fun (x3 : WC) => (x3.1, (x3.2.1, ((List.map (fun (x4 : Int) => x4) (List.take x3.2.2.1.2 x3.2.2.1.1)), (x3.2.2.2.1, (x3.2.2.2.2.1, x3.2.2.2.2.2)))))) (List.take x2.1.2.1.2.2.1.2 x2.1.2.1.2.2.1.1)), x2.1.2.1.2.2.2))), ((List.map (fun (x3 : WN) => (x3.1, (x3.2.1, (x3.2.2.1, ((List.map (fun (x4 : Int) => x4) (List.take x3.2.2.2.1.2 x3.2.2.2.1.1)), x3.2.2.2.2))))) (List.take x2.1.1.2 x2.1.1.1)), ((List.map (fun (x3 : WN) => (x3.1, (x3.2.1, (x3.2.2.1, ((List.map (fun (x4 : Int) => x4) (List.take x3.2.2.2.1.2 x3.2.2.2.1.1)), x3.2.2.2.2))))) (List.take x2.2.2.2.1.2 x2.2.2.2.1.1)), (x2.2.2.1, ()))))) fun (x3 : ((Bool × (Int × Unit)) × Unit)) =>
  (shr (d14_K1 x0) (fun (x4 : (((WI × (((List WN) × Nat) × (((List WN) × Nat) × Unit))) × (Int × (((List WN) × Nat) × (((List WN) × Nat) × (Bool × Unit))))) → (Option ((Bool × Unit) × Unit)))) => (loopN (d14_L3 x4) x0 ((x2.1.1, (x2.1.2.1, (x2.1.2.2.1, ()))), ((0 : Int), (x2.2.1, (x2.2.2.1, (x2.2.2.2.1, (x3.1.1, ())))))))))))
def d14_K5 (x3 : (((((List WN) × Nat) × (((List WN) × Nat) × (WI × Unit))) × (Int × (((List WN) × Nat) × (Int × (((List WN) × Nat) × Unit))))) → (Option ((Bool × Unit) × Unit)))) : (((((List WN) × Nat) × (((List WN) × Nat) × (WI × Unit))) × (((List WN) × Nat) × (Int × (((List WN) × Nat) × (Int × Unit))))) → (Option ((Bool × Unit) × Unit))) :=
  (fun (x6 : ((((List WN) × Nat) × (((List WN) × Nat) × (WI × Unit))) × (((List WN) × Nat) × (Int × (((List WN) × Nat) × (Int × Unit)))))) => (x3 ((x6.1.1, (x6.1.2.1, (x6.1.2.2.1, ()))), ((Go.IntKind.wrap Go.IntKind.i64 (x6.2.2.2.2.1 - (1 : Int))), (x6.2.1, (x6.2.2.1, (x6.2.2.2.1, ())))))))
def d14_L6 (x2 : (((((List WN) × Nat) × (WI × (((List WN) × Nat) × Unit))) × (((List WN) × Nat) × (Int × (((List WN) × Nat) × Unit)))) → (Option ((Bool × Unit) × Unit)))) : ((((((List WN) × Nat) × (((List WN) × Nat) × (WI × Unit))) × (Int × (((List WN) × Nat) × (Int × (((List WN) × Nat) × Unit))))) → (Option ((Bool × Unit) × Unit))) → (((((List WN) × Nat) × (((List WN) × Nat) × (WI × Unit))) × (Int × (((List WN) × Nat) × (Int × (((List WN) × Nat) × Unit))))) → (Option ((Bool × Unit) × Unit)))) :=
  (fun (x3 : (((((List WN) × Nat) × (((List WN) × Nat) × (WI × Unit))) × (Int × (((List WN) × Nat) × (Int × (((List WN) × Nat) × Unit))))) → (Option ((Bool × Unit) × Unit)))) => (fun (x4 : ((((List WN) × Nat) × (((List WN) × Nat) × (WI × Unit))) × (Int × (((List WN) × Nat) × (Int × (((List WN) × Nat) × Unit)))))) => (lt (Decidable.decide (x4.2.1 ≥ (0 : Int))) fun (x5 : Bool) =>
  (if (x5 = Bool.true) then
  (shr (d14_K5 x3) (fun (x6 : (((((List WN) × Nat) × (((List WN) × Nat) × (WI × Unit))) × (((List WN) × Nat) × (Int × (((List WN) × Nat) × (Int × Unit))))) → (Option ((Bool × Unit) × Unit)))) => (if (((Decidable.decide ((0 : Int) ≤ x4.2.1)) && (Decidable.decide (x4.2.1 < (((List.length (List.take x4.2.2.1.2 x4.2.2.1.1)) : Nat) : Int)))) = Bool.true) then
  (lt (List.getD (List.take x4.2.2.1.2 x4.2.2.1.1) (Int.toNat x4.2.1) ((0 : Int), ((0 : Int), ((0 : Int), ((([] : List Int), (0 : Nat)), ()))))) fun (x7 : WN) =>
  (lt (x7 :: ([] : List WN)) fun (x8 : (List WN)) =>
  (if (((Decidable.decide (x4.1.2.1.2 = (List.length x4.1.2.1.1))) && (Go.Lift.appFits (List.length x4.1.2.1.1) (List.length x8) (48 : Nat))) = Bool.true) then
  (lt (x4.1.2.1.1 ++ x8) fun (x9 : (List WN)) =>
  (lt (List.length (x4.1.2.1.1 ++ x8)) fun (x10 : Nat) =>
  (if (((Decidable.decide ((0 : Int) ≤ x4.2.1)) && (Decidable.decide (x4.2.1 < (((List.length (List.take x4.2.2.1.2 x4.2.2.1.1)) : Nat) : Int)))) = Bool.true) then
  (lt (List.getD (List.take x4.2.2.1.2 x4.2.2.1.1) (Int.toNat x4.2.1) ((0 : Int), ((0 : Int), ((0 : Int), ((([] : List Int), (0 : Nat)), ()))))) fun (x11 : WN) =>
  (lt (x11 :: ([] : List WN)) fun (x12 : (List WN)) =>
  (if (((Decidable.decide (x4.1.1.2 = (List.length x4.1.1.1))) && (Go.Lift.appFits (List.length x4.1.1.1) (List.length x12) (48 : Nat))) = Bool.true) then
  (x6 ((((x4.1.1.1 ++ x12), (List.length (x4.1.1.1 ++ x12))), ((x9, x10), (x4.1.2.2.1, ()))), (x4.2.2.1, (x4.2.2.2.1, (x4.2.2.2.2.1, (x4.2.1, ()))))))
  else (Option.none))))
  else (Option.none))))
  else (Option.none))))
  else (Option.none))))
  else (x2 ((x4.1.2.1, (x4.1.2.2.1, (x4.1.1, ()))), (x4.2.2.1, (x4.2.2.2.1, (x4.2.2.2.2.1, ())))))))))
def d14 : (Nat → ((WI × (((List WN) × Nat) × (((List WN) × Nat) × (Int × Unit)))) → (Option ((Bool × Unit) × Unit)))) :=
  (fun (x0 : Nat) => (fun (x1 : (WI × (((List WN) × Nat) × (((List WN) × Nat) × (Int × Unit))))) => (shr (d14_K4 x0) (fun (x2 : (((((List WN) × Nat) × (WI × (((List WN) × Nat) × Unit))) × (((List WN) × Nat) × (Int × (((List WN) × Nat) × Unit)))) → (Option ((Bool × Unit) × Unit)))) => (loopN (d14_L6 x2) x0 (((([] : List WN), (0 : Nat)), ((([] : List WN), (0 : Nat)), (x1.1, ()))), ((Go.IntKind.wrap Go.IntKind.i64 ((((List.length (List.take x1.2.1.2 x1.2.1.1)) : Nat) : Int) - (1 : Int))), (x1.2.1, (x1.2.2.2.1, (x1.2.2.1, ()))))))))))
theorem k14 : c_fn Try.prog ⟨[(8, ⟨s8, d8⟩), (11, ⟨s11, d11⟩)], ksW⟩ Try.f14 s14 h14 = some d14 := by kernel_rfl
/-- bulkhead/bulkheadlaw24.further -/
def s35 : Sig := ⟨[((.win (.sl 56 kPO)), .val)], [((.win (.sl 56 kPO)), (.own (.ow .sh)))]⟩
 def h35 : Hint := (.seq .leaf
   (.seq .leaf
   (.seq (.seq .leaf
   (.block ⟨[((.win (.sl 56 kPO)), (.ow .sh), (3, 0))], [((3, 0), (.own 0))]⟩ true
     (.loop ⟨[((.win (.sl 56 kPO)), (.ow .sh), (3, 0))], [((4, 0), (.val (.int .i64))), ((3, 0), (.own 0)), ((0, 0), (.val (.win (.sl 56 kPO))))]⟩
       (.seq (.seq .leaf
       (.cond none
         .leaf
         .leaf))
       (.seq (.block ⟨[((.win (.sl 56 kPO)), (.ow .sh), (3, 0))], [((3, 0), (.own 0)), ((0, 0), (.val (.win (.sl 56 kPO)))), ((4, 0), (.val (.int .i64)))]⟩ true
         (.seq .leaf
         (.seq .leaf
         .leaf)))
       .leaf)))))
   (.seq .leaf
   .leaf))))
def d35_K1  : (((((List PO) × Nat) × Unit) × Unit) → (Option ((((List PO) × Nat) × Unit) × Unit))) :=
  (fun (x2 : ((((List PO) × Nat) × Unit) × Unit)) => (Option.some ((x2.1.1, ()), ())))
def d35_K2 (x3 : (((((List PO) × Nat) × Unit) × (Int × (((List PO) × Nat) × Unit))) → (Option ((((List PO) × Nat) × Unit) × Unit)))) : (((((List PO) × Nat) × Unit) × (((List PO) × Nat) × (Int × Unit))) → (Option ((((List PO) × Nat) × Unit) × Unit))) :=
  (fun (x7 : ((((List PO) × Nat) × Unit) × (((List PO) × Nat) × (Int × Unit)))) => (x3 ((x7.1.1, ()), ((Go.IntKind.wrap Go.IntKind.i64 (x7.2.2.1 + (1 : Int))), (x7.2.1, ())))))
def d35_L3 (x2 : (((((List PO) × Nat) × Unit) × Unit) → (Option ((((List PO) × Nat) × Unit) × Unit)))) : ((((((List PO) × Nat) × Unit) × (Int × (((List PO) × Nat) × Unit))) → (Option ((((List PO) × Nat) × Unit) × Unit))) → (((((List PO) × Nat) × Unit) × (Int × (((List PO) × Nat) × Unit))) → (Option ((((List PO) × Nat) × Unit) × Unit)))) :=
  (fun (x3 : (((((List PO) × Nat) × Unit) × (Int × (((List PO) × Nat) × Unit))) → (Option ((((List PO) × Nat) × Unit) × Unit)))) => (fun (x4 : ((((List PO) × Nat) × Unit) × (Int × (((List PO) × Nat) × Unit)))) => (lt (((List.length (List.take x4.2.2.1.2 x4.2.2.1.1)) : Nat) : Int) fun (x5 : Int) =>
  (lt (Decidable.decide (x4.2.1 < x5)) fun (x6 : Bool) =>
  (if (x6 = Bool.true) then
  (shr (d35_K2 x3) (fun (x7 : (((((List PO) × Nat) × Unit) × (((List PO) × Nat) × (Int × Unit))) → (Option ((((List PO) × Nat) × Unit) × Unit)))) => (if (((Decidable.decide ((0 : Int) ≤ x4.2.1)) && (Decidable.decide (x4.2.1 < (((List.length (List.take x4.2.2.1.2 x4.2.2.1.1)) : Nat) : Int)))) = Bool.true) then
  (lt (List.getD (List.take x4.2.2.1.2 x4.2.2.1.1) (Int.toNat x4.2.1) ((0 : Int), ((0 : Int), (Bool.false, ((0 : Int), ((0 : Int), ((0 : Int), ()))))))) fun (x8 : PO) =>
  (lt (Go.IntKind.wrap Go.IntKind.i64 (((BitVec.toNat ((BitVec.ofInt (Go.IntKind.bits Go.IntKind.i64) x8.1) &&& (BitVec.ofInt (Go.IntKind.bits Go.IntKind.i64) (31 : Int)))) : Nat) : Int)) fun (x9 : Int) =>
  (lt (Go.IntKind.wrap Go.IntKind.i64 (x9 + (1 : Int))) fun (x10 : Int) =>
  (lt ((x10, x8.2) :: ([] : List PO)) fun (x11 : (List PO)) =>
  (if (((Decidable.decide (x4.1.1.2 = (List.length x4.1.1.1))) && (Go.Lift.appFits (List.length x4.1.1.1) (List.length x11) (48 : Nat))) = Bool.true) then
  (x7 ((((x4.1.1.1 ++ x11), (List.length (x4.1.1.1 ++ x11))), ()), (x4.2.2.1, (x4.2.1, ()))))
  else (Option.none))))))
  else (Option.none))))
  else (x2 ((x4.1.1, ()), ())))))))
def d35 : (Nat → ((((List PO) × Nat) × Unit) → (Option ((((List PO) × Nat) × Unit) × Unit)))) :=
  (fun (x0 : Nat) => (fun (x1 : (((List PO) × Nat) × Unit)) => (shr d35_K1 (fun (x2 : (((((List PO) × Nat) × Unit) × Unit) → (Option ((((List PO) × Nat) × Unit) × Unit)))) => (loopN (d35_L3 x2) x0 (((([] : List PO), (0 : Nat)), ()), ((0 : Int), (x1.1, ()))))))))
theorem k35 : c_fn Try.prog ⟨[], ksW⟩ Try.f35 s35 h35 = some d35 := by kernel_rfl
/-- bulkhead/bulkheadlaw24.alikePlaced -/
def s15 : Sig := ⟨[(kWI, .val), (kWI, .val), ((.int .i64), .val)], [(.bool, .val)]⟩
 def h15 : Hint := (.seq .leaf
   (.seq .leaf
   (.seq .leaf
   (.seq .leaf
   (.seq .leaf
   (.seq .leaf
   (.seq (.seq .leaf
   (.block ⟨[((.ptr 26 kWI), (.ow (.pr (.ow (.pr .sh (.pr .sh (.pr .sh (.pr (.ow .sh) (.pr (.ow .sh) (.pr (.ow .sh) (.pr .sh (.pr .sh (.pr (.ow .sh) (.pr (.ow .sh) (.pr (.ow .sh) .sh)))))))))))) (.pr (.ow .sh) (.pr (.ow .sh) .sh)))), (8, 0)), ((.ptr 26 kWI), (.ow (.pr (.ow (.pr .sh (.pr .sh (.pr .sh (.pr (.ow .sh) (.pr (.ow .sh) (.pr (.ow .sh) (.pr .sh (.pr .sh (.pr (.ow .sh) (.pr (.ow .sh) (.pr (.ow .sh) .sh)))))))))))) (.pr (.ow .sh) (.pr (.ow .sh) .sh)))), (7, 0)), ((.ptr 26 kWI), (.ow .sh), (4, 0)), ((.ptr 26 kWI), (.ow .sh), (3, 0))], [((8, 0), (.own 0)), ((7, 0), (.own 1)), ((4, 0), (.own 2)), ((2, 0), (.val (.int .i64))), ((3, 0), (.own 3)), ((9, 0), (.val .bool))]⟩ true
     (.loop ⟨[((.ptr 26 kWI), (.ow .sh), (4, 0)), ((.ptr 26 kWI), (.ow (.pr (.ow (.pr .sh (.pr .sh (.pr .sh (.pr (.ow .sh) (.pr (.ow .sh) (.pr (.ow .sh) (.pr .sh (.pr .sh (.pr (.ow .sh) (.pr (.ow .sh) (.pr (.ow .sh) .sh)))))))))))) (.pr (.ow .sh) (.pr (.ow .sh) .sh)))), (7, 0)), ((.ptr 26 kWI), (.ow (.pr (.ow (.pr .sh (.pr .sh (.pr .sh (.pr (.ow .sh) (.pr (.ow .sh) (.pr (.ow .sh) (.pr .sh (.pr .sh (.pr (.ow .sh) (.pr (.ow .sh) (.pr (.ow .sh) .sh)))))))))))) (.pr (.ow .sh) (.pr (.ow .sh) .sh)))), (8, 0)), ((.ptr 26 kWI), (.ow .sh), (3, 0))], [((11, 0), (.val (.int .i64))), ((4, 0), (.own 0)), ((7, 0), (.own 1)), ((8, 0), (.own 2)), ((2, 0), (.val (.int .i64))), ((3, 0), (.own 3)), ((9, 0), (.val .bool))]⟩
       (.seq (.seq .leaf
       (.cond none
         .leaf
         .leaf))
       (.seq (.block ⟨[((.ptr 26 kWI), (.ow .sh), (4, 0)), ((.ptr 26 kWI), (.ow (.pr (.ow (.pr .sh (.pr .sh (.pr .sh (.pr (.ow .sh) (.pr (.ow .sh) (.pr (.ow .sh) (.pr .sh (.pr .sh (.pr (.ow .sh) (.pr (.ow .sh) (.pr (.ow .sh) .sh)))))))))))) (.pr (.ow .sh) (.pr (.ow .sh) .sh)))), (7, 0)), ((.ptr 26 kWI), (.ow (.pr (.ow (.pr .sh (.pr .sh (.pr .sh (.pr (.ow .sh) (.pr (.ow .sh) (.pr (.ow .sh) (.pr .sh (.pr .sh (.pr (.ow .sh) (.pr (.ow .sh) (.pr (.ow .sh) .sh)))))))))))) (.pr (.ow .sh) (.pr (.ow .sh) .sh)))), (8, 0)), ((.ptr 26 kWI), (.ow .sh), (3, 0))], [((4, 0), (.own 0)), ((7, 0), (.own 1)), ((8, 0), (.own 2)), ((2, 0), (.val (.int .i64))), ((3, 0), (.own 3)), ((9, 0), (.val .bool)), ((11, 0), (.val (.int .i64)))]⟩ true
         .leaf)
       .leaf)))))
   (.seq .leaf
   (.seq (.seq .leaf
   (.block ⟨[((.ptr 26 kWI), (.ow .sh), (4, 0)), ((.ptr 26 kWI), (.ow (.pr (.ow (.pr .sh (.pr .sh (.pr .sh (.pr (.ow .sh) (.pr (.ow .sh) (.pr (.ow .sh) (.pr .sh (.pr .sh (.pr (.ow .sh) (.pr (.ow .sh) (.pr (.ow .sh) .sh)))))))))))) (.pr (.ow .sh) (.pr (.ow .sh) .sh)))), (7, 0)), ((.ptr 26 kWI), (.ow .sh), (3, 0)), ((.ptr 26 kWI), (.ow (.pr (.ow (.pr .sh (.pr .sh (.pr .sh (.pr (.ow .sh) (.pr (.ow .sh) (.pr (.ow .sh) (.pr .sh (.pr .sh (.pr (.ow .sh) (.pr (.ow .sh) (.pr (.ow .sh) .sh)))))))))))) (.pr (.ow .sh) (.pr (.ow .sh) .sh)))), (8, 0))], [((4, 0), (.own 0)), ((7, 0), (.own 1)), ((2, 0), (.val (.int .i64))), ((3, 0), (.own 2)), ((12, 0), (.val .bool)), ((8, 0), (.own 3)), ((9, 0), (.val .bool))]⟩ true
     (.loop ⟨[((.ptr 26 kWI), (.ow (.pr (.ow (.pr .sh (.pr .sh (.pr .sh (.pr (.ow .sh) (.pr (.ow .sh) (.pr (.ow .sh) (.pr .sh (.pr .sh (.pr (.ow .sh) (.pr (.ow .sh) (.pr (.ow .sh) .sh)))))))))))) (.pr (.ow .sh) (.pr (.ow .sh) .sh)))), (8, 0)), ((.ptr 26 kWI), (.ow (.pr (.ow (.pr .sh (.pr .sh (.pr .sh (.pr (.ow .sh) (.pr (.ow .sh) (.pr (.ow .sh) (.pr .sh (.pr .sh (.pr (.ow .sh) (.pr (.ow .sh) (.pr (.ow .sh) .sh)))))))))))) (.pr (.ow .sh) (.pr (.ow .sh) .sh)))), (7, 0)), ((.ptr 26 kWI), (.ow .sh), (4, 0)), ((.ptr 26 kWI), (.ow .sh), (3, 0))], [((14, 0), (.val (.int .i64))), ((8, 0), (.own 0)), ((7, 0), (.own 1)), ((4, 0), (.own 2)), ((2, 0), (.val (.int .i64))), ((3, 0), (.own 3)), ((12, 0), (.val .bool)), ((9, 0), (.val .bool))]⟩
       (.seq (.seq .leaf
       (.cond none
         .leaf
         .leaf))
       (.seq (.block ⟨[((.ptr 26 kWI), (.ow (.pr (.ow (.pr .sh (.pr .sh (.pr .sh (.pr (.ow .sh) (.pr (.ow .sh) (.pr (.ow .sh) (.pr .sh (.pr .sh (.pr (.ow .sh) (.pr (.ow .sh) (.pr (.ow .sh) .sh)))))))))))) (.pr (.ow .sh) (.pr (.ow .sh) .sh)))), (8, 0)), ((.ptr 26 kWI), (.ow (.pr (.ow (.pr .sh (.pr .sh (.pr .sh (.pr (.ow .sh) (.pr (.ow .sh) (.pr (.ow .sh) (.pr .sh (.pr .sh (.pr (.ow .sh) (.pr (.ow .sh) (.pr (.ow .sh) .sh)))))))))))) (.pr (.ow .sh) (.pr (.ow .sh) .sh)))), (7, 0)), ((.ptr 26 kWI), (.ow .sh), (4, 0)), ((.ptr 26 kWI), (.ow .sh), (3, 0))], [((8, 0), (.own 0)), ((7, 0), (.own 1)), ((4, 0), (.own 2)), ((2, 0), (.val (.int .i64))), ((3, 0), (.own 3)), ((12, 0), (.val .bool)), ((9, 0), (.val .bool)), ((14, 0), (.val (.int .i64)))]⟩ true
         .leaf)
       .leaf)))))
   (.seq .leaf
   (.seq (.seq .leaf
   (.block ⟨[((.ptr 26 kWI), (.ow .sh), (4, 0)), ((.ptr 26 kWI), (.ow .sh), (3, 0)), ((.ptr 26 kWI), (.ow (.pr (.ow (.pr .sh (.pr .sh (.pr .sh (.pr (.ow .sh) (.pr (.ow .sh) (.pr (.ow .sh) (.pr .sh (.pr .sh (.pr (.ow .sh) (.pr (.ow .sh) (.pr (.ow .sh) .sh)))))))))))) (.pr (.ow .sh) (.pr (.ow .sh) .sh)))), (8, 0)), ((.ptr 26 kWI), (.ow (.pr (.ow (.pr .sh (.pr .sh (.pr .sh (.pr (.ow .sh) (.pr (.ow .sh) (.pr (.ow .sh) (.pr .sh (.pr .sh (.pr (.ow .sh) (.pr (.ow .sh) (.pr (.ow .sh) .sh)))))))))))) (.pr (.ow .sh) (.pr (.ow .sh) .sh)))), (7, 0))], [((2, 0), (.val (.int .i64))), ((4, 0), (.own 0)), ((3, 0), (.own 1)), ((12, 0), (.val .bool)), ((8, 0), (.own 2)), ((9, 0), (.val .bool)), ((15, 0), (.val .bool)), ((7, 0), (.own 3))]⟩ true
     (.loop ⟨[((.ptr 26 kWI), (.ow .sh), (4, 0)), ((.ptr 26 kWI), (.ow (.pr (.ow (.pr .sh (.pr .sh (.pr .sh (.pr (.ow .sh) (.pr (.ow .sh) (.pr (.ow .sh) (.pr .sh (.pr .sh (.pr (.ow .sh) (.pr (.ow .sh) (.pr (.ow .sh) .sh)))))))))))) (.pr (.ow .sh) (.pr (.ow .sh) .sh)))), (7, 0)), ((.ptr 26 kWI), (.ow .sh), (3, 0)), ((.ptr 26 kWI), (.ow (.pr (.ow (.pr .sh (.pr .sh (.pr .sh (.pr (.ow .sh) (.pr (.ow .sh) (.pr (.ow .sh) (.pr .sh (.pr .sh (.pr (.ow .sh) (.pr (.ow .sh) (.pr (.ow .sh) .sh)))))))))))) (.pr (.ow .sh) (.pr (.ow .sh) .sh)))), (8, 0))], [((17, 0), (.val (.int .i64))), ((4, 0), (.own 0)), ((7, 0), (.own 1)), ((2, 0), (.val (.int .i64))), ((3, 0), (.own 2)), ((12, 0), (.val .bool)), ((8, 0), (.own 3)), ((9, 0), (.val .bool)), ((15, 0), (.val .bool))]⟩
       (.seq (.seq .leaf
       (.cond none
         .leaf
         .leaf))
       (.seq (.block ⟨[((.ptr 26 kWI), (.ow .sh), (4, 0)), ((.ptr 26 kWI), (.ow (.pr (.ow (.pr .sh (.pr .sh (.pr .sh (.pr (.ow .sh) (.pr (.ow .sh) (.pr (.ow .sh) (.pr .sh (.pr .sh (.pr (.ow .sh) (.pr (.ow .sh) (.pr (.ow .sh) .sh)))))))))))) (.pr (.ow .sh) (.pr (.ow .sh) .sh)))), (7, 0)), ((.ptr 26 kWI), (.ow .sh), (3, 0)), ((.ptr 26 kWI), (.ow (.pr (.ow (.pr .sh (.pr .sh (.pr .sh (.pr (.ow .sh) (.pr (.ow .sh) (.pr (.ow .sh) (.pr .sh (.pr .sh (.pr (.ow .sh) (.pr (.ow .sh) (.pr (.ow .sh) .sh)))))))))))) (.pr (.ow .sh) (.pr (.ow .sh) .sh)))), (8, 0))], [((4, 0), (.own 0)), ((7, 0), (.own 1)), ((2, 0), (.val (.int .i64))), ((3, 0), (.own 2)), ((12, 0), (.val .bool)), ((8, 0), (.own 3)), ((9, 0), (.val .bool)), ((15, 0), (.val .bool)), ((17, 0), (.val (.int .i64)))]⟩ true
         .leaf)
       .leaf)))))
   (.seq .leaf
   (.seq (.seq .leaf
   (.cond none
     (.seq .leaf
     .leaf)
     .leaf))
   (.seq .leaf
   .leaf))))))))))))))
def d15_K1 (x0 : Nat) : (((WI × (WI × (WI × (WI × Unit)))) × (Int × (Bool × (Bool × (Bool × Unit))))) → (Option ((Bool × Unit) × Unit))) :=
  (fun (x11 : ((WI × (WI × (WI × (WI × Unit)))) × (Int × (Bool × (Bool × (Bool × Unit)))))) => (Option.bind (d6 x0 (((List.map (fun (x12 : WP) => ((x12.1.1, (x12.1.2.1, (x12.1.2.2.1, (x12.1.2.2.2.1, x12.1.2.2.2.2)))), (x12.2.1, (x12.2.2.1, ((List.map (fun (x13 : Int) => x13) (List.take x12.2.2.2.1.2 x12.2.2.2.1.1)), ((List.map (fun (x13 : IS) => (x13.1, (x13.2.1, (x13.2.2.1, (x13.2.2.2.1, (x13.2.2.2.2.1, x13.2.2.2.2.2)))))) (List.take x12.2.2.2.2.1.2 x12.2.2.2.2.1.1)), ((List.map (fun (x13 : PC) => (x13.1, (x13.2.1, (x13.2.2.1, (x13.2.2.2.1, (x13.2.2.2.2.1, (x13.2.2.2.2.2.1, x13.2.2.2.2.2.2))))))) (List.take x12.2.2.2.2.2.1.2 x12.2.2.2.2.2.1.1)), (x12.2.2.2.2.2.2.1, ((List.map (fun (x13 : Int) => x13) x12.2.2.2.2.2.2.2.1), ((List.map (fun (x13 : I2) => (x13.1, (x13.2.1, x13.2.2))) (List.take x12.2.2.2.2.2.2.2.2.1.2 x12.2.2.2.2.2.2.2.2.1.1)), ((List.map (fun (x13 : Bool) => x13) (List.take x12.2.2.2.2.2.2.2.2.2.1.2 x12.2.2.2.2.2.2.2.2.2.1.1)), ((List.map (fun (x13 : I2) => (x13.1, (x13.2.1, x13.2.2))) (List.take x12.2.2.2.2.2.2.2.2.2.2.1.2 x12.2.2.2.2.2.2.2.2.2.2.1.1)), x12.2.2.2.2.2.2.2.2.2.2.2)))))))))))) (List.take x11.1.2.2.2.1.1.2 x11.1.2.2.2.1.1.1)), ((List.map (fun (x12 : PO) => (x12.1, (x12.2.1, (x12.2.2.1, (x12.2.2.2.1, (x12.2.2.2.2.1, (x12.2.2.2.2.2.1, x12.2.2.2.2.2.2))))))) (List.take x11.1.2.2.2.1.2.1.2 x11.1.2.2.2.1.2.1.1)), ((List.map (fun (x12 : WC) => (x12.1, (x12.2.1, ((List.map (fun (x13 : Int) => x13) (List.take x12.2.2.1.2 x12.2.2.1.1)), (x12.2.2.2.1, (x12.2.2.2.2.1, x12.2.2.2.2.2)))))) (List.take x11.1.2.2.2.1.2.2.1.2 x11.1.2.2.2.1.2.2.1.1)), x11.1.2.2.2.1.2.2.2))), (((List.map (fun (x12 : WP) => ((x12.1.1, (x12.1.2.1, (x12.1.2.2.1, (x12.1.2.2.2.1, x12.1.2.2.2.2)))), (x12.2.1, (x12.2.2.1, ((List.map (fun (x13 : Int) => x13) (List.take x12.2.2.2.1.2 x12.2.2.2.1.1)), ((List.map (fun (x13 : IS) => (x13.1, (x13.2.1, (x13.2.2.1, (x13.2.2.2.1, (x13.2.2.2.2.1, x13.2.2.2.2.2)))))) (List.take x12.2.2.2.2.1.2 x12.2.2.2.2.1.1)), ((List.map (fun (x13 : PC) => (x13.1, (x13.2.1, (x13.2.2.1, (x13.2.2.2.1, (x13.2.2.2.2.1, (x13.2.2.2.2.2.1, x13.2.2.2.2.2.2))))))) (List.take x12.2.2.2.2.2.1.2 x12.2.2.2.2.2.1.1)), (x12.2.2.2.2.2.2.1, ((List.map (fun (x13 : Int) => x13) x12.2.2.2.2.2.2.2.1), ((List.map (fun (x13 : I2) => (x13.1, (x13.2.1, x13.2.2))) (List.take x12.2.2.2.2.2.2.2.2.1.2 x12.2.2.2.2.2.2.2.2.1.1)), ((List.map (fun (x13 : Bool) => x13) (List.take x12.2.2.2.2.2.2.2.2.2.1.2 x12.2.2.2.2.2.2.2.2.2.1.1)), ((List.map (fun (x13 : I2) => (x13.1, (x13.2.1, x13.2.2))) (List.take x12.2.2.2.2.2.2.2.2.2.2.1.2 x12.2.2.2.2.2.2.2.2.2.2.1.1)), x12.2.2.2.2.2.2.2.2.2.2.2)))))))))))) (List.take x11.1.2.1.1.2 x11.1.2.1.1.1)), ((List.map (fun (x12 : PO) => (x12.1, (x12.2.1, (x12.2.2.1, (x12.2.2.2.1, (x12.2.2.2.2.1, (x12.2.2.2.2.2.1, x12.2.2.2.2.2.2))))))) (List.take x11.1.2.1.2.1.2 x11.1.2.1.2.1.1)), ((List.map (fun (x12 : WC) => (x12.1, (x12.2.1, ((List.map (fun (x13 : Int) => x13) (List.take x12.2.2.1.2 x12.2.2.1.1)), (x12.2.2.2.1, (x12.2.2.2.2.1, x12.2.2.2.2.2)))))) (List.take x11.1.2.1.2.2.1.2 x11.1.2.1.2.2.1.1)), x11.1.2.1.2.2.2))), (x11.2.1, ())))) fun (x12 : ((Bool × (Int × Unit)) × Unit)) =>
  (lt (((List.length (List.take x11.1.1.1.2 x11.1.1.1.1)) : Nat) : Int) fun (x13 : Int) =>
  (lt (Decidable.decide (x11.2.1 > x13)) fun (x14 : Bool) =>
  (if (x14 = Bool.true) then
  (lt (Bool.not x11.2.2.2.2.1) fun (x15 : Bool) =>
  (lt (Bool.not x12.1.1) fun (x16 : Bool) =>
  (lt (if (x15 = Bool.true) then
  x16
  else Bool.false) fun (x17 : Bool) =>
  (Option.bind (if (((x17 == Bool.true) && Bool.true) = Bool.true) then
  (d10 x0 (((List.map (fun (x18 : WP) => ((x18.1.1, (x18.1.2.1, (x18.1.2.2.1, (x18.1.2.2.2.1, x18.1.2.2.2.2)))), (x18.2.1, (x18.2.2.1, ((List.map (fun (x19 : Int) => x19) (List.take x18.2.2.2.1.2 x18.2.2.2.1.1)), ((List.map (fun (x19 : IS) => (x19.1, (x19.2.1, (x19.2.2.1, (x19.2.2.2.1, (x19.2.2.2.2.1, x19.2.2.2.2.2)))))) (List.take x18.2.2.2.2.1.2 x18.2.2.2.2.1.1)), ((List.map (fun (x19 : PC) => (x19.1, (x19.2.1, (x19.2.2.1, (x19.2.2.2.1, (x19.2.2.2.2.1, (x19.2.2.2.2.2.1, x19.2.2.2.2.2.2))))))) (List.take x18.2.2.2.2.2.1.2 x18.2.2.2.2.2.1.1)), (x18.2.2.2.2.2.2.1, ((List.map (fun (x19 : Int) => x19) x18.2.2.2.2.2.2.2.1), ((List.map (fun (x19 : I2) => (x19.1, (x19.2.1, x19.2.2))) (List.take x18.2.2.2.2.2.2.2.2.1.2 x18.2.2.2.2.2.2.2.2.1.1)), ((List.map (fun (x19 : Bool) => x19) (List.take x18.2.2.2.2.2.2.2.2.2.1.2 x18.2.2.2.2.2.2.2.2.2.1.1)), ((List.map (fun (x19 : I2) => (x19.1, (x19.2.1, x19.2.2))) (List.take x18.2.2.2.2.2.2.2.2.2.2.1.2 x18.2.2.2.2.2.2.2.2.2.2.1.1)), x18.2.2.2.2.2.2.2.2.2.2.2)))))))))))) (List.take x11.1.2.1.1.2 x11.1.2.1.1.1)), ((List.map (fun (x18 : PO) => (x18.1, (x18.2.1, (x18.2.2.1, (x18.2.2.2.1, (x18.2.2.2.2.1, (x18.2.2.2.2.2.1, x18.2.2.2.2.2.2))))))) (List.take x11.1.2.1.2.1.2 x11.1.2.1.2.1.1)), ((List.map (fun (x18 : WC) => (x18.1, (x18.2.1, ((List.map (fun (x19 : Int) => x19) (List.take x18.2.2.1.2 x18.2.2.1.1)), (x18.2.2.2.1, (x18.2.2.2.2.1, x18.2.2.2.2.2)))))) (List.take x11.1.2.1.2.2.1.2 x11.1.2.1.2.2.1.1)), x11.1.2.1.2.2.2))), (((List.map (fun (x18 : WP) => ((x18.1.1, (x18.1.2.1, (x18.1.2.2.1, (x18.1.2.2.2.1, x18.1.2.2.2.2)))), (x18.2.1, (x18.2.2.1, ((List.map (fun (x19 : Int) => x19) (List.take x18.2.2.2.1.2 x18.2.2.2.1.1)), ((List.map (fun (x19 : IS) => (x19.1, (x19.2.1, (x19.2.2.1, (x19.2.2.2.1, (x19.2.2.2.2.1, x19.2.2.2.2.2)))))) (List.take x18.2.2.2.2.1.2 x18.2.2.2.2.1.1)), ((List.map (fun (x19 : PC) => (x19.1, (x19.2.1, (x19.2.2.1, (x19.2.2.2.1, (x19.2.2.2.2.1, (x19.2.2.2.2.2.1, x19.2.2.2.2.2.2))))))) (List.take x18.2.2.2.2.2.1.2 x18.2.2.2.2.2.1.1)), (x18.2.2.2.2.2.2.1, ((List.map (fun (x19 : Int) => x19) x18.2.2.2.2.2.2.2.1), ((List.map (fun (x19 : I2) => (x19.1, (x19.2.1, x19.2.2))) (List.take x18.2.2.2.2.2.2.2.2.1.2 x18.2.2.2.2.2.2.2.2.1.1)), ((List.map (fun (x19 : Bool) => x19) (List.take x18.2.2.2.2.2.2.2.2.2.1.2 x18.2.2.2.2.2.2.2.2.2.1.1)), ((List.map (fun (x19 : I2) => (x19.1, (x19.2.1, x19.2.2))) (List.take x18.2.2.2.2.2.2.2.2.2.2.1.2 x18.2.2.2.2.2.2.2.2.2.2.1.1)), x18.2.2.2.2.2.2.2.2.2.2.2)))))))))))) (List.take x11.1.2.2.1.1.2 x11.1.2.2.1.1.1)), ((List.map (fun (x18 : PO) => (x18.1, (x18.2.1, (x18.2.2.1, (x18.2.2.2.1, (x18.2.2.2.2.1, (x18.2.2.2.2.2.1, x18.2.2.2.2.2.2))))))) (List.take x11.1.2.2.1.2.1.2 x11.1.2.2.1.2.1.1)), ((List.map (fun (x18 : WC) => (x18.1, (x18.2.1, ((List.map (fun (x19 : Int) => x19) (List.take x18.2.2.1.2 x18.2.2.1.1)), (x18.2.2.2.1, (x18.2.2.2.2.1, x18.2.2.2.2.2)))))) (List.take x11.1.2.2.1.2.2.1.2 x11.1.2.2.1.2.2.1.1)), x11.1.2.2.1.2.2.2))), (x11.2.1, ()))))
  else (Option.some ((Bool.false, ()), ()))) fun (x18 : ((Bool × Unit) × Unit)) =>
  (lt (x11.2.2.2.1 == x18.1.1) fun (x19 : Bool) =>
  (lt (if (x17 = Bool.true) then
  x19
  else Bool.false) fun (x20 : Bool) =>
  (Option.bind (if (((x20 == Bool.true) && Bool.true) = Bool.true) then
  (d10 x0 (((List.map (fun (x21 : WP) => ((x21.1.1, (x21.1.2.1, (x21.1.2.2.1, (x21.1.2.2.2.1, x21.1.2.2.2.2)))), (x21.2.1, (x21.2.2.1, ((List.map (fun (x22 : Int) => x22) (List.take x21.2.2.2.1.2 x21.2.2.2.1.1)), ((List.map (fun (x22 : IS) => (x22.1, (x22.2.1, (x22.2.2.1, (x22.2.2.2.1, (x22.2.2.2.2.1, x22.2.2.2.2.2)))))) (List.take x21.2.2.2.2.1.2 x21.2.2.2.2.1.1)), ((List.map (fun (x22 : PC) => (x22.1, (x22.2.1, (x22.2.2.1, (x22.2.2.2.1, (x22.2.2.2.2.1, (x22.2.2.2.2.2.1, x22.2.2.2.2.2.2))))))) (List.take x21.2.2.2.2.2.1.2 x21.2.2.2.2.2.1.1)), (x21.2.2.2.2.2.2.1, ((List.map (fun (x22 : Int) => x22) x21.2.2.2.2.2.2.2.1), ((List.map (fun (x22 : I2) => (x22.1, (x22.2.1, x22.2.2))) (List.take x21.2.2.2.2.2.2.2.2.1.2 x21.2.2.2.2.2.2.2.2.1.1)), ((List.map (fun (x22 : Bool) => x22) (List.take x21.2.2.2.2.2.2.2.2.2.1.2 x21.2.2.2.2.2.2.2.2.2.1.1)), ((List.map (fun (x22 : I2) => (x22.1, (x22.2.1, x22.2.2))) (List.take x21.2.2.2.2.2.2.2.2.2.2.1.2 x21.2.2.2.2.2.2.2.2.2.2.1.1)), x21.2.2.2.2.2.2.2.2.2.2.2)))))))))))) (List.take x11.1.2.1.1.2 x11.1.2.1.1.1)), ((List.map (fun (x21 : PO) => (x21.1, (x21.2.1, (x21.2.2.1, (x21.2.2.2.1, (x21.2.2.2.2.1, (x21.2.2.2.2.2.1, x21.2.2.2.2.2.2))))))) (List.take x11.1.2.1.2.1.2 x11.1.2.1.2.1.1)), ((List.map (fun (x21 : WC) => (x21.1, (x21.2.1, ((List.map (fun (x22 : Int) => x22) (List.take x21.2.2.1.2 x21.2.2.1.1)), (x21.2.2.2.1, (x21.2.2.2.2.1, x21.2.2.2.2.2)))))) (List.take x11.1.2.1.2.2.1.2 x11.1.2.1.2.2.1.1)), x11.1.2.1.2.2.2))), (((List.map (fun (x21 : WP) => ((x21.1.1, (x21.1.2.1, (x21.1.2.2.1, (x21.1.2.2.2.1, x21.1.2.2.2.2)))), (x21.2.1, (x21.2.2.1, ((List.map (fun (x22 : Int) => x22) (List.take x21.2.2.2.1.2 x21.2.2.2.1.1)), ((List.map (fun (x22 : IS) => (x22.1, (x22.2.1, (x22.2.2.1, (x22.2.2.2.1, (x22.2.2.2.2.1, x22.2.2.2.2.2)))))) (List.take x21.2.2.2.2.1.2 x21.2.2.2.2.1.1)), ((List.map (fun (x22 : PC) => (x22.1, (x22.2.1, (x22.2.2.1, (x22.2.2.2.1, (x22.2.2.2.2.1, (x22.2.2.2.2.2.1, x22.2.2.2.2.2.2))))))) (List.take x21.2.2.2.2.2.1.2 x21.2.2.2.2.2.1.1)), (x21.2.2.2.2.2.2.1, ((List.map (fun (x22 : Int) => x22) x21.2.2.2.2.2.2.2.1), ((List.map (fun (x22 : I2) => (x22.1, (x22.2.1, x22.2.2))) (List.take x21.2.2.2.2.2.2.2.2.1.2 x21.2.2.2.2.2.2.2.2.1.1)), ((List.map (fun (x22 : Bool) => x22) (List.take x21.2.2.2.2.2.2.2.2.2.1.2 x21.2.2.2.2.2.2.2.2.2.1.1)), ((List.map (fun (x22 : I2) => (x22.1, (x22.2.1, x22.2.2))) (List.take x21.2.2.2.2.2.2.2.2.2.2.1.2 x21.2.2.2.2.2.2.2.2.2.2.1.1)), x21.2.2.2.2.2.2.2.2.2.2.2)))))))))))) (List.take x11.1.1.1.2 x11.1.1.1.1)), ((List.map (fun (x21 : PO) => (x21.1, (x21.2.1, (x21.2.2.1, (x21.2.2.2.1, (x21.2.2.2.2.1, (x21.2.2.2.2.2.1, x21.2.2.2.2.2.2))))))) (List.take x11.1.1.2.1.2 x11.1.1.2.1.1)), ((List.map (fun (x21 : WC) => (x21.1, (x21.2.1, ((List.map (fun (x22 : Int) => x22) (List.take x21.2.2.1.2 x21.2.2.1.1)), (x21.2.2.2.1, (x21.2.2.2.2.1, x21.2.2.2.2.2)))))) (List.take x11.1.1.2.2.1.2 x11.1.1.2.2.1.1)), x11.1.1.2.2.2))), (x11.2.1, ()))))
  else (Option.some ((Bool.false, ()), ()))) fun (x21 : ((Bool × Unit) × Unit)) =>
  (lt (x11.2.2.1 == x21.1.1) fun (x22 : Bool) =>
  (Option.some (((if (x20 = Bool.true) then
  x22
  else Bool.false), ()), ()))))))))))
  else (Option.bind (d10 x0 (((List.map (fun (x15 : WP) => ((x15.1.1, (x15.1.2.1, (x15.1.2.2.1, (x15.1.2.2.2.1, x15.1.2.2.2.2)))), (x15.2.1, (x15.2.2.1, ((List.map (fun (x16 : Int) => x16) (List.take x15.2.2.2.1.2 x15.2.2.2.1.1)), ((List.map (fun (x16 : IS) => (x16.1, (x16.2.1, (x16.2.2.1, (x16.2.2.2.1, (x16.2.2.2.2.1, x16.2.2.2.2.2)))))) (List.take x15.2.2.2.2.1.2 x15.2.2.2.2.1.1)), ((List.map (fun (x16 : PC) => (x16.1, (x16.2.1, (x16.2.2.1, (x16.2.2.2.1, (x16.2.2.2.2.1, (x16.2.2.2.2.2.1, x16.2.2.2.2.2.2))))))) (List.take x15.2.2.2.2.2.1.2 x15.2.2.2.2.2.1.1)), (x15.2.2.2.2.2.2.1, ((List.map (fun (x16 : Int) => x16) x15.2.2.2.2.2.2.2.1), ((List.map (fun (x16 : I2) => (x16.1, (x16.2.1, x16.2.2))) (List.take x15.2.2.2.2.2.2.2.2.1.2 x15.2.2.2.2.2.2.2.2.1.1)), ((List.map (fun (x16 : Bool) => x16) (List.take x15.2.2.2.2.2.2.2.2.2.1.2 x15.2.2.2.2.2.2.2.2.2.1.1)), ((List.map (fun (x16 : I2) => (x16.1, (x16.2.1, x16.2.2))) (List.take x15.2.2.2.2.2.2.2.2.2.2.1.2 x15.2.2.2.2.2.2.2.2.2.2.1.1)), x15.2.2.2.2.2.2.2.2.2.2.2)))))))))))) (List.take x11.1.2.1.1.2 x11.1.2.1.1.1)), ((List.map (fun (x15 : PO) => (x15.1, (x15.2.1, (x15.2.2.1, (x15.2.2.2.1, (x15.2.2.2.2.1, (x15.2.2.2.2.2.1, x15.2.2.2.2.2.2))))))) (List.take x11.1.2.1.2.1.2 x11.1.2.1.2.1.1)), ((List.map (fun (x15 : WC) => (x15.1, (x15.2.1, ((List.map (fun (x16 : Int) => x16) (List.take x15.2.2.1.2 x15.2.2.1.1)), (x15.2.2.2.1, (x15.2.2.2.2.1, x15.2.2.2.2.2)))))) (List.take x11.1.2.1.2.2.1.2 x11.1.2.1.2.2.1.1)), x11.1.2.1.2.2.2))), (((List.map (fun (x15 : WP) => ((x15.1.1, (x15.1.2.1, (x15.1.2.2.1, (x15.1.2.2.2.1, x15.1.2.2.2.2)))), (x15.2.1, (x15.2.2.1, ((List.map (fun (x16 : Int) => x16) (List.take x15.2.2.2.1.2 x15.2.2.2.1.1)), ((List.map (fun (x16 : IS) => (x16.1, (x16.2.1, (x16.2.2.1, (x16.2.2.2.1, (x16.2.2.2.2.1, x16.2.2.2.2.2)))))) (List.take x15.2.2.2.2.1.2 x15.2.2.2.2.1.1)), ((List.map (fun (x16 : PC) => (x16.1, (x16.2.1, (x16.2.2.1, (x16.2.2.2.1, (x16.2.2.2.2.1, (x16.2.2.2.2.2.1, x16.2.2.2.2.2.2))))))) (List.take x15.2.2.2.2.2.1.2 x15.2.2.2.2.2.1.1)), (x15.2.2.2.2.2.2.1, ((List.map (fun (x16 : Int) => x16) x15.2.2.2.2.2.2.2.1), ((List.map (fun (x16 : I2) => (x16.1, (x16.2.1, x16.2.2))) (List.take x15.2.2.2.2.2.2.2.2.1.2 x15.2.2.2.2.2.2.2.2.1.1)), ((List.map (fun (x16 : Bool) => x16) (List.take x15.2.2.2.2.2.2.2.2.2.1.2 x15.2.2.2.2.2.2.2.2.2.1.1)), ((List.map (fun (x16 : I2) => (x16.1, (x16.2.1, x16.2.2))) (List.take x15.2.2.2.2.2.2.2.2.2.2.1.2 x15.2.2.2.2.2.2.2.2.2.2.1.1)), x15.2.2.2.2.2.2.2.2.2.2.2)))))))))))) (List.take x11.1.2.2.1.1.2 x11.1.2.2.1.1.1)), ((List.map (fun (x15 : PO) => (x15.1, (x15.2.1, (x15.2.2.1, (x15.2.2.2.1, (x15.2.2.2.2.1, (x15.2.2.2.2.2.1, x15.2.2.2.2.2.2))))))) (List.take x11.1.2.2.1.2.1.2 x11.1.2.2.1.2.1.1)), ((List.map (fun (x15 : WC) => (x15.1, (x15.2.1, ((List.map (fun (x16 : Int) => x16) (List.take x15.2.2.1.2 x15.2.2.1.1)), (x15.2.2.2.1, (x15.2.2.2.2.1, x15.2.2.2.2.2)))))) (List.take x11.1.2.2.1.2.2.1.2 x11.1.2.2.1.2.2.1.1)), x11.1.2.2.1.2.2.2))), (x11.2.1, ())))) fun (x15 : ((Bool × Unit) × Unit)) =>
  (lt (x11.2.2.2.1 == x15.1.1) fun (x16 : Bool) =>
  (Option.bind (if (((x16 == Bool.true) && Bool.true) = Bool.true) then
  (d10 x0 (((List.map (fun (x17 : WP) => ((x17.1.1, (x17.1.2.1, (x17.1.2.2.1, (x17.1.2.2.2.1, x17.1.2.2.2.2)))), (x17.2.1, (x17.2.2.1, ((List.map (fun (x18 : Int) => x18) (List.take x17.2.2.2.1.2 x17.2.2.2.1.1)), ((List.map (fun (x18 : IS) => (x18.1, (x18.2.1, (x18.2.2.1, (x18.2.2.2.1, (x18.2.2.2.2.1, x18.2.2.2.2.2)))))) (List.take x17.2.2.2.2.1.2 x17.2.2.2.2.1.1)), ((List.map (fun (x18 : PC) => (x18.1, (x18.2.1, (x18.2.2.1, (x18.2.2.2.1, (x18.2.2.2.2.1, (x18.2.2.2.2.2.1, x18.2.2.2.2.2.2))))))) (List.take x17.2.2.2.2.2.1.2 x17.2.2.2.2.2.1.1)), (x17.2.2.2.2.2.2.1, ((List.map (fun (x18 : Int) => x18) x17.2.2.2.2.2.2.2.1), ((List.map (fun (x18 : I2) => (x18.1, (x18.2.1, x18.2.2))) (List.take x17.2.2.2.2.2.2.2.2.1.2 x17.2.2.2.2.2.2.2.2.1.1)), ((List.map (fun (x18 : Bool) => x18) (List.take x17.2.2.2.2.2.2.2.2.2.1.2 x17.2.2.2.2.2.2.2.2.2.1.1)), ((List.map (fun (x18 : I2) => (x18.1, (x18.2.1, x18.2.2))) (List.take x17.2.2.2.2.2.2.2.2.2.2.1.2 x17.2.2.2.2.2.2.2.2.2.2.1.1)), x17.2.2.2.2.2.2.2.2.2.2.2)))))))))))) (List.take x11.1.2.2.1.1.2 x11.1.2.2.1.1.1)), ((List.map (fun (x17 : PO) => (x17.1, (x17.2.1, (x17.2.2.1, (x17.2.2.2.1, (x17.2.2.2.2.1, (x17.2.2.2.2.2.1, x17.2.2.2.2.2.2))))))) (List.take x11.1.2.2.1.2.1.2 x11.1.2.2.1.2.1.1)), ((List.map (fun (x17 : WC) => (x17.1, (x17.2.1, ((List.map (fun (x18 : Int) => x18) (List.take x17.2.2.1.2 x17.2.2.1.1)), (x17.2.2.2.1, (x17.2.2.2.2.1, x17.2.2.2.2.2)))))) (List.take x11.1.2.2.1.2.2.1.2 x11.1.2.2.1.2.2.1.1)), x11.1.2.2.1.2.2.2))), (((List.map (fun (x17 : WP) => ((x17.1.1, (x17.1.2.1, (x17.1.2.2.1, (x17.1.2.2.2.1, x17.1.2.2.2.2)))), (x17.2.1, (x17.2.2.1, ((List.map (fun (x18 : Int) => x18) (List.take x17.2.2.2.1.2 x17.2.2.2.1.1)), ((List.map (fun (x18 : IS) => (x18.1, (x18.2.1, (x18.2.2.1, (x18.2.2.2.1, (x18.2.2.2.2.1, x18.2.2.2.2.2)))))) (List.take x17.2.2.2.2.1.2 x17.2.2.2.2.1.1)), ((List.map (fun (x18 : PC) => (x18.1, (x18.2.1, (x18.2.2.1, (x18.2.2.2.1, (x18.2.2.2.2.1, (x18.2.2.2.2.2.1, x18.2.2.2.2.2.2))))))) (List.take x17.2.2.2.2.2.1.2 x17.2.2.2.2.2.1.1)), (x17.2.2.2.2.2.2.1, ((List.map (fun (x18 : Int) => x18) x17.2.2.2.2.2.2.2.1), ((List.map (fun (x18 : I2) => (x18.1, (x18.2.1, x18.2.2))) (List.take x17.2.2.2.2.2.2.2.2.1.2 x17.2.2.2.2.2.2.2.2.1.1)), ((List.map (fun (x18 : Bool) => x18) (List.take x17.2.2.2.2.2.2.2.2.2.1.2 x17.2.2.2.2.2.2.2.2.2.1.1)), ((List.map (fun (x18 : I2) => (x18.1, (x18.2.1, x18.2.2))) (List.take x17.2.2.2.2.2.2.2.2.2.2.1.2 x17.2.2.2.2.2.2.2.2.2.2.1.1)), x17.2.2.2.2.2.2.2.2.2.2.2)))))))))))) (List.take x11.1.2.1.1.2 x11.1.2.1.1.1)), ((List.map (fun (x17 : PO) => (x17.1, (x17.2.1, (x17.2.2.1, (x17.2.2.2.1, (x17.2.2.2.2.1, (x17.2.2.2.2.2.1, x17.2.2.2.2.2.2))))))) (List.take x11.1.2.1.2.1.2 x11.1.2.1.2.1.1)), ((List.map (fun (x17 : WC) => (x17.1, (x17.2.1, ((List.map (fun (x18 : Int) => x18) (List.take x17.2.2.1.2 x17.2.2.1.1)), (x17.2.2.2.1, (x17.2.2.2.2.1, x17.2.2.2.2.2)))))) (List.take x11.1.2.1.2.2.1.2 x11.1.2.1.2.2.1.1)), x11.1.2.1.2.2.2))), (x11.2.1, ()))))
  else (Option.some ((Bool.false, ()), ()))) fun (x17 : ((Bool × Unit) × Unit)) =>
  (lt (x11.2.2.2.2.1 == x17.1.1) fun (x18 : Bool) =>
  (lt (if (x16 = Bool.true) then
  x18
  else Bool.false) fun (x19 : Bool) =>
  (Option.bind (if (((x19 == Bool.true) && Bool.true) = Bool.true) then
  (d10 x0 (((List.map (fun (x20 : WP) => ((x20.1.1, (x20.1.2.1, (x20.1.2.2.1, (x20.1.2.2.2.1, x20.1.2.2.2.2)))), (x20.2.1, (x20.2.2.1, ((List.map (fun (x21 : Int) => x21) (List.take x20.2.2.2.1.2 x20.2.2.2.1.1)), ((List.map (fun (x21 : IS) => (x21.1, (x21.2.1, (x21.2.2.1, (x21.2.2.2.1, (x21.2.2.2.2.1, x21.2.2.2.2.2)))))) (List.take x20.2.2.2.2.1.2 x20.2.2.2.2.1.1)), ((List.map (fun (x21 : PC) => (x21.1, (x21.2.1, (x21.2.2.1, (x21.2.2.2.1, (x21.2.2.2.2.1, (x21.2.2.2.2.2.1, x21.2.2.2.2.2.2))))))) (List.take x20.2.2.2.2.2.1.2 x20.2.2.2.2.2.1.1)), (x20.2.2.2.2.2.2.1, ((List.map (fun (x21 : Int) => x21) x20.2.2.2.2.2.2.2.1), ((List.map (fun (x21 : I2) => (x21.1, (x21.2.1, x21.2.2))) (List.take x20.2.2.2.2.2.2.2.2.1.2 x20.2.2.2.2.2.2.2.2.1.1)), ((List.map (fun (x21 : Bool) => x21) (List.take x20.2.2.2.2.2.2.2.2.2.1.2 x20.2.2.2.2.2.2.2.2.2.1.1)), ((List.map (fun (x21 : I2) => (x21.1, (x21.2.1, x21.2.2))) (List.take x20.2.2.2.2.2.2.2.2.2.2.1.2 x20.2.2.2.2.2.2.2.2.2.2.1.1)), x20.2.2.2.2.2.2.2.2.2.2.2)))))))))))) (List.take x11.1.2.1.1.2 x11.1.2.1.1.1)), ((List.map (fun (x20 : PO) => (x20.1, (x20.2.1, (x20.2.2.1, (x20.2.2.2.1, (x20.2.2.2.2.1, (x20.2.2.2.2.2.1, x20.2.2.2.2.2.2))))))) (List.take x11.1.2.1.2.1.2 x11.1.2.1.2.1.1)), ((List.map (fun (x20 : WC) => (x20.1, (x20.2.1, ((List.map (fun (x21 : Int) => x21) (List.take x20.2.2.1.2 x20.2.2.1.1)), (x20.2.2.2.1, (x20.2.2.2.2.1, x20.2.2.2.2.2)))))) (List.take x11.1.2.1.2.2.1.2 x11.1.2.1.2.2.1.1)), x11.1.2.1.2.2.2))), (((List.map (fun (x20 : WP) => ((x20.1.1, (x20.1.2.1, (x20.1.2.2.1, (x20.1.2.2.2.1, x20.1.2.2.2.2)))), (x20.2.1, (x20.2.2.1, ((List.map (fun (x21 : Int) => x21) (List.take x20.2.2.2.1.2 x20.2.2.2.1.1)), ((List.map (fun (x21 : IS) => (x21.1, (x21.2.1, (x21.2.2.1, (x21.2.2.2.1, (x21.2.2.2.2.1, x21.2.2.2.2.2)))))) (List.take x20.2.2.2.2.1.2 x20.2.2.2.2.1.1)), ((List.map (fun (x21 : PC) => (x21.1, (x21.2.1, (x21.2.2.1, (x21.2.2.2.1, (x21.2.2.2.2.1, (x21.2.2.2.2.2.1, x21.2.2.2.2.2.2))))))) (List.take x20.2.2.2.2.2.1.2 x20.2.2.2.2.2.1.1)), (x20.2.2.2.2.2.2.1, ((List.map (fun (x21 : Int) => x21) x20.2.2.2.2.2.2.2.1), ((List.map (fun (x21 : I2) => (x21.1, (x21.2.1, x21.2.2))) (List.take x20.2.2.2.2.2.2.2.2.1.2 x20.2.2.2.2.2.2.2.2.1.1)), ((List.map (fun (x21 : Bool) => x21) (List.take x20.2.2.2.2.2.2.2.2.2.1.2 x20.2.2.2.2.2.2.2.2.2.1.1)), ((List.map (fun (x21 : I2) => (x21.1, (x21.2.1, x21.2.2))) (List.take x20.2.2.2.2.2.2.2.2.2.2.1.2 x20.2.2.2.2.2.2.2.2.2.2.1.1)), x20.2.2.2.2.2.2.2.2.2.2.2)))))))))))) (List.take x11.1.1.1.2 x11.1.1.1.1)), ((List.map (fun (x20 : PO) => (x20.1, (x20.2.1, (x20.2.2.1, (x20.2.2.2.1, (x20.2.2.2.2.1, (x20.2.2.2.2.2.1, x20.2.2.2.2.2.2))))))) (List.take x11.1.1.2.1.2 x11.1.1.2.1.1)), ((List.map (fun (x20 : WC) => (x20.1, (x20.2.1, ((List.map (fun (x21 : Int) => x21) (List.take x20.2.2.1.2 x20.2.2.1.1)), (x20.2.2.2.1, (x20.2.2.2.2.1, x20.2.2.2.2.2)))))) (List.take x11.1.1.2.2.1.2 x11.1.1.2.2.1.1)), x11.1.1.2.2.2))), (x11.2.1, ()))))
  else (Option.some ((Bool.false, ()), ()))) fun (x20 : ((Bool × Unit) × Unit)) =>
  (lt (x11.2.2.1 == x20.1.1) fun (x21 : Bool) =>
  (lt (if (x19 = Bool.true) then
  x21
  else Bool.false) fun (x22 : Bool) =>
  (Option.bind (if (((x22 == Bool.true) && Bool.true) = Bool.true) then
  (d10 x0 (((List.map (fun (x23 : WP) => ((x23.1.1, (x23.1.2.1, (x23.1.2.2.1, (x23.1.2.2.2.1, x23.1.2.2.2.2)))), (x23.2.1, (x23.2.2.1, ((List.map (fun (x24 : Int) => x24) (List.take x23.2.2.2.1.2 x23.2.2.2.1.1)), ((List.map (fun (x24 : IS) => (x24.1, (x24.2.1, (x24.2.2.1, (x24.2.2.2.1, (x24.2.2.2.2.1, x24.2.2.2.2.2)))))) (List.take x23.2.2.2.2.1.2 x23.2.2.2.2.1.1)), ((List.map (fun (x24 : PC) => (x24.1, (x24.2.1, (x24.2.2.1, (x24.2.2.2.1, (x24.2.2.2.2.1, (x24.2.2.2.2.2.1, x24.2.2.2.2.2.2))))))) (List.take x23.2.2.2.2.2.1.2 x23.2.2.2.2.2.1.1)), (x23.2.2.2.2.2.2.1, ((List.map (fun (x24 : Int) => x24) x23.2.2.2.2.2.2.2.1), ((List.map (fun (x24 : I2) => (x24.1, (x24.2.1, x24.2.2))) (List.take x23.2.2.2.2.2.2.2.2.1.2 x23.2.2.2.2.2.2.2.2.1.1)), ((List.map (fun (x24 : Bool) => x24) (List.take x23.2.2.2.2.2.2.2.2.2.1.2 x23.2.2.2.2.2.2.2.2.2.1.1)), ((List.map (fun (x24 : I2) => (x24.1, (x24.2.1, x24.2.2))) (List.take x23.2.2.2.2.2.2.2.2.2.2.1.2 x23.2.2.2.2.2.2.2.2.2.2.1.1)), x23.2.2.2.2.2.2.2.2.2.2.2)))))))))))) (List.take x11.1.1.1.2 x11.1.1.1.1)), ((List.map (fun (x23 : PO) => (x23.1, (x23.2.1, (x23.2.2.1, (x23.2.2.2.1, (x23.2.2.2.2.1, (x23.2.2.2.2.2.1, x23.2.2.2.2.2.2))))))) (List.take x11.1.1.2.1.2 x11.1.1.2.1.1)), ((List.map (fun (x23 : WC) => (x23.1, (x23.2.1, ((List.map (fun (x24 : Int) => x24) (List.take x23.2.2.1.2 x23.2.2.1.1)), (x23.2.2.2.1, (x23.2.2.2.2.1, x23.2.2.2.2.2)))))) (List.take x11.1.1.2.2.1.2 x11.1.1.2.2.1.1)), x11.1.1.2.2.2))), (((List.map (fun (x23 : WP) => ((x23.1.1, (x23.1.2.1, (x23.1.2.2.1, (x23.1.2.2.2.1, x23.1.2.2.2.2)))), (x23.2.1, (x23.2.2.1, ((List.map (fun (x24 : Int) => x24) (List.take x23.2.2.2.1.2 x23.2.2.2.1.1)), ((List.map (fun (x24 : IS) => (x24.1, (x24.2.1, (x24.2.2.1, (x24.2.2.2.1, (x24.2.2.2.2.1, x24.2.2.2.2.2)))))) (List.take x23.2.2.2.2.1.2 x23.2.2.2.2.1.1)), ((List.map (fun (x24 : PC) => (x24.1, (x24.2.1, (x24.2.2.1, (x24.2.2.2.1, (x24.2.2.2.2.1, (x24.2.2.2.2.2.1, x24.2.2.2.2.2.2))))))) (List.take x23.2.2.2.2.2.1.2 x23.2.2.2.2.2.1.1)), (x23.2.2.2.2.2.2.1, ((List.map (fun (x24 : Int) => x24) x23.2.2.2.2.2.2.2.1), ((List.map (fun (x24 : I2) => (x24.1, (x24.2.1, x24.2.2))) (List.take x23.2.2.2.2.2.2.2.2.1.2 x23.2.2.2.2.2.2.2.2.1.1)), ((List.map (fun (x24 : Bool) => x24) (List.take x23.2.2.2.2.2.2.2.2.2.1.2 x23.2.2.2.2.2.2.2.2.2.1.1)), ((List.map (fun (x24 : I2) => (x24.1, (x24.2.1, x24.2.2))) (List.take x23.2.2.2.2.2.2.2.2.2.2.1.2 x23.2.2.2.2.2.2.2.2.2.2.1.1)), x23.2.2.2.2.2.2.2.2.2.2.2)))))))))))) (List.take x11.1.2.1.1.2 x11.1.2.1.1.1)), ((List.map (fun (x23 : PO) => (x23.1, (x23.2.1, (x23.2.2.1, (x23.2.2.2.1, (x23.2.2.2.2.1, (x23.2.2.2.2.2.1, x23.2.2.2.2.2.2))))))) (List.take x11.1.2.1.2.1.2 x11.1.2.1.2.1.1)), ((List.map (fun (x23 : WC) => (x23.1, (x23.2.1, ((List.map (fun (x24 : Int) => x24) (List.take x23.2.2.1.2 x23.2.2.1.1)), (x23.2.2.2.1, (x23.2.2.2.2.1, x23.2.2.2.2.2)))))) (List.take x11.1.2.1.2.2.1.2 x11.1.2.1.2.2.1.1)), x11.1.2.1.2.2.2))), (x11.2.1, ()))))
  else (Option.some ((Bool.false, ()), ()))) fun (x23 : ((Bool × Unit) × Unit)) =>
  (lt (x12.1.1 == x23.1.1) fun (x24 : Bool) =>
  (Option.some (((if (x22 = Bool.true) then
  x24
  else Bool.false), ()), ())))))))))))))))))
def d15_K2 (x12 : (((WI × (WI × (WI × (WI × Unit)))) × (Int × (Int × (Bool × (Bool × (Bool × Unit)))))) → (Option ((Bool × Unit) × Unit)))) : (((WI × (WI × (WI × (WI × Unit)))) × (Int × (Bool × (Bool × (Bool × (Int × Unit)))))) → (Option ((Bool × Unit) × Unit))) :=
  (fun (x16 : ((WI × (WI × (WI × (WI × Unit)))) × (Int × (Bool × (Bool × (Bool × (Int × Unit))))))) => (x12 ((x16.1.1, (x16.1.2.1, (x16.1.2.2.1, (x16.1.2.2.2.1, ())))), ((Go.IntKind.wrap Go.IntKind.i64 (x16.2.2.2.2.2.1 + (1 : Int))), (x16.2.1, (x16.2.2.1, (x16.2.2.2.1, (x16.2.2.2.2.1, ()))))))))
def d15_L3 (x11 : (((WI × (WI × (WI × (WI × Unit)))) × (Int × (Bool × (Bool × (Bool × Unit))))) → (Option ((Bool × Unit) × Unit)))) : ((((WI × (WI × (WI × (WI × Unit)))) × (Int × (Int × (Bool × (Bool × (Bool × Unit)))))) → (Option ((Bool × Unit) × Unit))) → (((WI × (WI × (WI × (WI × Unit)))) × (Int × (Int × (Bool × (Bool × (Bool × Unit)))))) → (Option ((Bool × Unit) × Unit)))) :=
  (fun (x12 : (((WI × (WI × (WI × (WI × Unit)))) × (Int × (Int × (Bool × (Bool × (Bool × Unit)))))) → (Option ((Bool × Unit) × Unit)))) => (fun (x13 : ((WI × (WI × (WI × (WI × Unit)))) × (Int × (Int × (Bool × (Bool × (Bool × Unit))))))) => (lt ((x13.1.2.1.2.1.2 : Nat) : Int) fun (x14 : Int) =>
  (lt (Decidable.decide (x13.2.1 < x14)) fun (x15 : Bool) =>
  (if (x15 = Bool.true) then
  (shr (d15_K2 x12) (fun (x16 : (((WI × (WI × (WI × (WI × Unit)))) × (Int × (Bool × (Bool × (Bool × (Int × Unit)))))) → (Option ((Bool × Unit) × Unit)))) => (if (((Decidable.decide ((0 : Int) ≤ x13.2.1)) && (Decidable.decide (x13.2.1 < (((List.length (List.take x13.1.1.2.1.2 x13.1.1.2.1.1)) : Nat) : Int)))) = Bool.true) then
  (lt (List.getD (List.take x13.1.1.2.1.2 x13.1.1.2.1.1) (Int.toNat x13.2.1) ((0 : Int), ((0 : Int), (Bool.false, ((0 : Int), ((0 : Int), ((0 : Int), ()))))))) fun (x17 : PO) =>
  (if (((Decidable.decide ((0 : Int) ≤ x13.2.1)) && (Decidable.decide (x13.2.1 < ((x13.1.2.1.2.1.2 : Nat) : Int)))) = Bool.true) then
  (if (((Decidable.decide ((Int.toNat x13.2.1) < x13.1.2.1.2.1.2)) && ((Decidable.decide ((Int.toNat x13.2.1) < (List.length x13.1.2.1.2.1.1))) && Bool.true)) = Bool.true) then
  (x16 ((x13.1.1, ((x13.1.2.1.1, (((List.set x13.1.2.1.2.1.1 (Int.toNat x13.2.1) x17), x13.1.2.1.2.1.2), x13.1.2.1.2.2)), (x13.1.2.2.1, (x13.1.2.2.2.1, ())))), (x13.2.2.1, (x13.2.2.2.1, (x13.2.2.2.2.1, (x13.2.2.2.2.2.1, (x13.2.1, ())))))))
  else (Option.none))
  else (Option.none)))
  else (Option.none))))
  else (x11 ((x13.1.1, (x13.1.2.2.1, (x13.1.2.2.2.1, (x13.1.2.1, ())))), (x13.2.2.1, (x13.2.2.2.1, (x13.2.2.2.2.1, (x13.2.2.2.2.2.1, ())))))))))))
def d15_K4 (x0 : Nat) : (((WI × (WI × (WI × (WI × Unit)))) × (Int × (Bool × (Bool × Unit)))) → (Option ((Bool × Unit) × Unit))) :=
  (fun (x9 : ((WI × (WI × (WI × (WI × Unit)))) × (Int × (Bool × (Bool × Unit))))) => (Option.bind (d6 x0 (((List.map (fun (x10 : WP) => ((x10.1.1, (x10.1.2.1, (x10.1.2.2.1, (x10.1.2.2.2.1, x10.1.2.2.2.2)))), (x10.2.1, (x10.2.2.1, ((List.map (fun (x11 : Int) => x11) (List.take x10.2.2.2.1.2 x10.2.2.2.1.1)), ((List.map (fun (x11 : IS) => (x11.1, (x11.2.1, (x11.2.2.1, (x11.2.2.2.1, (x11.2.2.2.2.1, x11.2.2.2.2.2)))))) (List.take x10.2.2.2.2.1.2 x10.2.2.2.2.1.1)), ((List.map (fun (x11 : PC) => (x11.1, (x11.2.1, (x11.2.2.1, (x11.2.2.2.1, (x11.2.2.2.2.1, (x11.2.2.2.2.2.1, x11.2.2.2.2.2.2))))))) (List.take x10.2.2.2.2.2.1.2 x10.2.2.2.2.2.1.1)), (x10.2.2.2.2.2.2.1, ((List.map (fun (x11 : Int) => x11) x10.2.2.2.2.2.2.2.1), ((List.map (fun (x11 : I2) => (x11.1, (x11.2.1, x11.2.2))) (List.take x10.2.2.2.2.2.2.2.2.1.2 x10.2.2.2.2.2.2.2.2.1.1)), ((List.map (fun (x11 : Bool) => x11) (List.take x10.2.2.2.2.2.2.2.2.2.1.2 x10.2.2.2.2.2.2.2.2.2.1.1)), ((List.map (fun (x11 : I2) => (x11.1, (x11.2.1, x11.2.2))) (List.take x10.2.2.2.2.2.2.2.2.2.2.1.2 x10.2.2.2.2.2.2.2.2.2.2.1.1)), x10.2.2.2.2.2.2.2.2.2.2.2)))))))))))) (List.take x9.1.2.1.1.2 x9.1.2.1.1.1)), ((List.map (fun (x10 : PO) => (x10.1, (x10.2.1, (x10.2.2.1, (x10.2.2.2.1, (x10.2.2.2.2.1, (x10.2.2.2.2.2.1, x10.2.2.2.2.2.2))))))) (List.take x9.1.2.1.2.1.2 x9.1.2.1.2.1.1)), ((List.map (fun (x10 : WC) => (x10.1, (x10.2.1, ((List.map (fun (x11 : Int) => x11) (List.take x10.2.2.1.2 x10.2.2.1.1)), (x10.2.2.2.1, (x10.2.2.2.2.1, x10.2.2.2.2.2)))))) (List.take x9.1.2.1.2.2.1.2 x9.1.2.1.2.2.1.1)), x9.1.2.1.2.2.2))), (((List.map (fun (x10 : WP) => ((x10.1.1, (x10.1.2.1, (x10.1.2.2.1, (x10.1.2.2.2.1, x10.1.2.2.2.2)))), (x10.2.1, (x10.2.2.1, ((List.map (fun (x11 : Int) => x11) (List.take x10.2.2.2.1.2 x10.2.2.2.1.1)), ((List.map (fun (x11 : IS) => (x11.1, (x11.2.1, (x11.2.2.1, (x11.2.2.2.1, (x11.2.2.2.2.1, x11.2.2.2.2.2)))))) (List.take x10.2.2.2.2.1.2 x10.2.2.2.2.1.1)), ((List.map (fun (x11 : PC) => (x11.1, (x11.2.1, (x11.2.2.1, (x11.2.2.2.1, (x11.2.2.2.2.1, (x11.2.2.2.2.2.1, x11.2.2.2.2.2.2))))))) (List.take x10.2.2.2.2.2.1.2 x10.2.2.2.2.2.1.1)), (x10.2.2.2.2.2.2.1, ((List.map (fun (x11 : Int) => x11) x10.2.2.2.2.2.2.2.1), ((List.map (fun (x11 : I2) => (x11.1, (x11.2.1, x11.2.2))) (List.take x10.2.2.2.2.2.2.2.2.1.2 x10.2.2.2.2.2.2.2.2.1.1)), ((List.map (fun (x11 : Bool) => x11) (List.take x10.2.2.2.2.2.2.2.2.2.1.2 x10.2.2.2.2.2.2.2.2.2.1.1)), ((List.map (fun (x11 : I2) => (x11.1, (x11.2.1, x11.2.2))) (List.take x10.2.2.2.2.2.2.2.2.2.2.1.2 x10.2.2.2.2.2.2.2.2.2.2.1.1)), x10.2.2.2.2.2.2.2.2.2.2.2)))))))))))) (List.take x9.1.2.2.1.1.2 x9.1.2.2.1.1.1)), ((List.map (fun (x10 : PO) => (x10.1, (x10.2.1, (x10.2.2.1, (x10.2.2.2.1, (x10.2.2.2.2.1, (x10.2.2.2.2.2.1, x10.2.2.2.2.2.2))))))) (List.take x9.1.2.2.1.2.1.2 x9.1.2.2.1.2.1.1)), ((List.map (fun (x10 : WC) => (x10.1, (x10.2.1, ((List.map (fun (x11 : Int) => x11) (List.take x10.2.2.1.2 x10.2.2.1.1)), (x10.2.2.2.1, (x10.2.2.2.2.1, x10.2.2.2.2.2)))))) (List.take x9.1.2.2.1.2.2.1.2 x9.1.2.2.1.2.2.1.1)), x9.1.2.2.1.2.2.2))), (x9.2.1, ())))) fun (x10 : ((Bool × (Int × Unit)) × Unit)) =>
  (shr (d15_K1 x0) (fun (x11 : (((WI × (WI × (WI × (WI × Unit)))) × (Int × (Bool × (Bool × (Bool × Unit))))) → (Option ((Bool × Unit) × Unit)))) => (loopN (d15_L3 x11) x0 ((x9.1.1, (x9.1.2.1, (x9.1.2.2.1, (x9.1.2.2.2.1, ())))), ((0 : Int), (x9.2.1, (x9.2.2.1, (x9.2.2.2.1, (x10.1.1, ())))))))))))
def d15_K5 (x10 : (((WI × (WI × (WI × (WI × Unit)))) × (Int × (Int × (Bool × (Bool × Unit))))) → (Option ((Bool × Unit) × Unit)))) : (((WI × (WI × (WI × (WI × Unit)))) × (Int × (Bool × (Bool × (Int × Unit))))) → (Option ((Bool × Unit) × Unit))) :=
  (fun (x14 : ((WI × (WI × (WI × (WI × Unit)))) × (Int × (Bool × (Bool × (Int × Unit)))))) => (x10 ((x14.1.1, (x14.1.2.1, (x14.1.2.2.1, (x14.1.2.2.2.1, ())))), ((Go.IntKind.wrap Go.IntKind.i64 (x14.2.2.2.2.1 + (1 : Int))), (x14.2.1, (x14.2.2.1, (x14.2.2.2.1, ())))))))
def d15_L6 (x9 : (((WI × (WI × (WI × (WI × Unit)))) × (Int × (Bool × (Bool × Unit)))) → (Option ((Bool × Unit) × Unit)))) : ((((WI × (WI × (WI × (WI × Unit)))) × (Int × (Int × (Bool × (Bool × Unit))))) → (Option ((Bool × Unit) × Unit))) → (((WI × (WI × (WI × (WI × Unit)))) × (Int × (Int × (Bool × (Bool × Unit))))) → (Option ((Bool × Unit) × Unit)))) :=
  (fun (x10 : (((WI × (WI × (WI × (WI × Unit)))) × (Int × (Int × (Bool × (Bool × Unit))))) → (Option ((Bool × Unit) × Unit)))) => (fun (x11 : ((WI × (WI × (WI × (WI × Unit)))) × (Int × (Int × (Bool × (Bool × Unit)))))) => (lt ((x11.1.2.1.2.1.2 : Nat) : Int) fun (x12 : Int) =>
  (lt (Decidable.decide (x11.2.1 < x12)) fun (x13 : Bool) =>
  (if (x13 = Bool.true) then
  (shr (d15_K5 x10) (fun (x14 : (((WI × (WI × (WI × (WI × Unit)))) × (Int × (Bool × (Bool × (Int × Unit))))) → (Option ((Bool × Unit) × Unit)))) => (if (((Decidable.decide ((0 : Int) ≤ x11.2.1)) && (Decidable.decide (x11.2.1 < ((x11.1.1.2.1.2 : Nat) : Int)))) = Bool.true) then
  (if (((Decidable.decide ((Int.toNat x11.2.1) < x11.1.1.2.1.2)) && ((Decidable.decide ((Int.toNat x11.2.1) < (List.length x11.1.1.2.1.1))) && Bool.true)) = Bool.true) then
  (lt (List.getD x11.1.1.2.1.1 (Int.toNat x11.2.1) ((0 : Int), ((0 : Int), (Bool.false, ((0 : Int), ((0 : Int), ((0 : Int), ()))))))) fun (x15 : PO) =>
  (if (((Decidable.decide ((0 : Int) ≤ x11.2.1)) && (Decidable.decide (x11.2.1 < ((x11.1.2.1.2.1.2 : Nat) : Int)))) = Bool.true) then
  (if (((Decidable.decide ((Int.toNat x11.2.1) < x11.1.2.1.2.1.2)) && ((Decidable.decide ((Int.toNat x11.2.1) < (List.length x11.1.2.1.2.1.1))) && Bool.true)) = Bool.true) then
  (x14 ((x11.1.1, ((x11.1.2.1.1, (((List.set x11.1.2.1.2.1.1 (Int.toNat x11.2.1) x15), x11.1.2.1.2.1.2), x11.1.2.1.2.2)), (x11.1.2.2.1, (x11.1.2.2.2.1, ())))), (x11.2.2.1, (x11.2.2.2.1, (x11.2.2.2.2.1, (x11.2.1, ()))))))
  else (Option.none))
  else (Option.none)))
  else (Option.none))
  else (Option.none))))
  else (x9 ((x11.1.2.2.1, (x11.1.2.1, (x11.1.2.2.2.1, (x11.1.1, ())))), (x11.2.2.1, (x11.2.2.2.1, (x11.2.2.2.2.1, ()))))))))))
def d15_K7 (x0 : Nat) : (((WI × (WI × (WI × (WI × Unit)))) × (Int × (Bool × Unit))) → (Option ((Bool × Unit) × Unit))) :=
  (fun (x7 : ((WI × (WI × (WI × (WI × Unit)))) × (Int × (Bool × Unit)))) => (Option.bind (d6 x0 (((List.map (fun (x8 : WP) => ((x8.1.1, (x8.1.2.1, (x8.1.2.2.1, (x8.1.2.2.2.1, x8.1.2.2.2.2)))), (x8.2.1, (x8.2.2.1, ((List.map (fun (x9 : Int) => x9) (List.take x8.2.2.2.1.2 x8.2.2.2.1.1)), ((List.map (fun (x9 : IS) => (x9.1, (x9.2.1, (x9.2.2.1, (x9.2.2.2.1, (x9.2.2.2.2.1, x9.2.2.2.2.2)))))) (List.take x8.2.2.2.2.1.2 x8.2.2.2.2.1.1)), ((List.map (fun (x9 : PC) => (x9.1, (x9.2.1, (x9.2.2.1, (x9.2.2.2.1, (x9.2.2.2.2.1, (x9.2.2.2.2.2.1, x9.2.2.2.2.2.2))))))) (List.take x8.2.2.2.2.2.1.2 x8.2.2.2.2.2.1.1)), (x8.2.2.2.2.2.2.1, ((List.map (fun (x9 : Int) => x9) x8.2.2.2.2.2.2.2.1), ((List.map (fun (x9 : I2) => (x9.1, (x9.2.1, x9.2.2))) (List.take x8.2.2.2.2.2.2.2.2.1.2 x8.2.2.2.2.2.2.2.2.1.1)), ((List.map (fun (x9 : Bool) => x9) (List.take x8.2.2.2.2.2.2.2.2.2.1.2 x8.2.2.2.2.2.2.2.2.2.1.1)), ((List.map (fun (x9 : I2) => (x9.1, (x9.2.1, x9.2.2))) (List.take x8.2.2.2.2.2.2.2.2.2.2.1.2 x8.2.2.2.2.2.2.2.2.2.2.1.1)), x8.2.2.2.2.2.2.2.2.2.2.2)))))))))))) (List.take x7.1.2.2.2.1.1.2 x7.1.2.2.2.1.1.1)), ((List.map (fun (x8 : PO) => (x8.1, (x8.2.1, (x8.2.2.1, (x8.2.2.2.1, (x8.2.2.2.2.1, (x8.2.2.2.2.2.1, x8.2.2.2.2.2.2))))))) (List.take x7.1.2.2.2.1.2.1.2 x7.1.2.2.2.1.2.1.1)), ((List.map (fun (x8 : WC) => (x8.1, (x8.2.1, ((List.map (fun (x9 : Int) => x9) (List.take x8.2.2.1.2 x8.2.2.1.1)), (x8.2.2.2.1, (x8.2.2.2.2.1, x8.2.2.2.2.2)))))) (List.take x7.1.2.2.2.1.2.2.1.2 x7.1.2.2.2.1.2.2.1.1)), x7.1.2.2.2.1.2.2.2))), (((List.map (fun (x8 : WP) => ((x8.1.1, (x8.1.2.1, (x8.1.2.2.1, (x8.1.2.2.2.1, x8.1.2.2.2.2)))), (x8.2.1, (x8.2.2.1, ((List.map (fun (x9 : Int) => x9) (List.take x8.2.2.2.1.2 x8.2.2.2.1.1)), ((List.map (fun (x9 : IS) => (x9.1, (x9.2.1, (x9.2.2.1, (x9.2.2.2.1, (x9.2.2.2.2.1, x9.2.2.2.2.2)))))) (List.take x8.2.2.2.2.1.2 x8.2.2.2.2.1.1)), ((List.map (fun (x9 : PC) => (x9.1, (x9.2.1, (x9.2.2.1, (x9.2.2.2.1, (x9.2.2.2.2.1, (x9.2.2.2.2.2.1, x9.2.2.2.2.2.2))))))) (List.take x8.2.2.2.2.2.1.2 x8.2.2.2.2.2.1.1)), (x8.2.2.2.2.2.2.1, ((List.map (fun (x9 : Int) => x9) x8.2.2.2.2.2.2.2.1), ((List.map (fun (x9 : I2) => (x9.1, (x9.2.1, x9.2.2))) (List.take x8.2.2.2.2.2.2.2.2.1.2 x8.2.2.2.2.2.2.2.2.1.1)), ((List.map (fun (x9 : Bool) => x9) (List.take x8.2.2.2.2.2.2.2.2.2.1.2 x8.2.2.2.2.2.2.2.2.2.1.1)), ((List.map (fun (x9 : I2) => (x9.1, (x9.2.1, x9.2.2))) (List.take x8.2.2.2.2.2.2.2.2.2.2.1.2 x8.2.2.2.2.2.2.2.2.2.2.1.1)), x8.2.2.2.2.2.2.2.2.2.2.2)))))))))))) (List.take x7.1.2.1.1.2 x7.1.2.1.1.1)), ((List.map (fun (x8 : PO) => (x8.1, (x8.2.1, (x8.2.2.1, (x8.2.2.2.1, (x8.2.2.2.2.1, (x8.2.2.2.2.2.1, x8.2.2.2.2.2.2))))))) (List.take x7.1.2.1.2.1.2 x7.1.2.1.2.1.1)), ((List.map (fun (x8 : WC) => (x8.1, (x8.2.1, ((List.map (fun (x9 : Int) => x9) (List.take x8.2.2.1.2 x8.2.2.1.1)), (x8.2.2.2.1, (x8.2.2.2.2.1, x8.2.2.2.2.2)))))) (List.take x7.1.2.1.2.2.1.2 x7.1.2.1.2.2.1.1)), x7.1.2.1.2.2.2))), (x7.2.1, ())))) fun (x8 : ((Bool × (Int × Unit)) × Unit)) =>
  (shr (d15_K4 x0) (fun (x9 : (((WI × (WI × (WI × (WI × Unit)))) × (Int × (Bool × (Bool × Unit)))) → (Option ((Bool × Unit) × Unit)))) => (loopN (d15_L6 x9) x0 ((x7.1.1, (x7.1.2.1, (x7.1.2.2.1, (x7.1.2.2.2.1, ())))), ((0 : Int), (x7.2.1, (x8.1.1, (x7.2.2.1, ()))))))))))
def d15_K8 (x8 : (((WI × (WI × (WI × (WI × Unit)))) × (Int × (Int × (Bool × Unit)))) → (Option ((Bool × Unit) × Unit)))) : (((WI × (WI × (WI × (WI × Unit)))) × (Int × (Bool × (Int × Unit)))) → (Option ((Bool × Unit) × Unit))) :=
  (fun (x12 : ((WI × (WI × (WI × (WI × Unit)))) × (Int × (Bool × (Int × Unit))))) => (x8 ((x12.1.1, (x12.1.2.1, (x12.1.2.2.1, (x12.1.2.2.2.1, ())))), ((Go.IntKind.wrap Go.IntKind.i64 (x12.2.2.2.1 + (1 : Int))), (x12.2.1, (x12.2.2.1, ()))))))
def d15_L9 (x7 : (((WI × (WI × (WI × (WI × Unit)))) × (Int × (Bool × Unit))) → (Option ((Bool × Unit) × Unit)))) : ((((WI × (WI × (WI × (WI × Unit)))) × (Int × (Int × (Bool × Unit)))) → (Option ((Bool × Unit) × Unit))) → (((WI × (WI × (WI × (WI × Unit)))) × (Int × (Int × (Bool × Unit)))) → (Option ((Bool × Unit) × Unit)))) :=
  (fun (x8 : (((WI × (WI × (WI × (WI × Unit)))) × (Int × (Int × (Bool × Unit)))) → (Option ((Bool × Unit) × Unit)))) => (fun (x9 : ((WI × (WI × (WI × (WI × Unit)))) × (Int × (Int × (Bool × Unit))))) => (lt ((x9.1.2.1.2.1.2 : Nat) : Int) fun (x10 : Int) =>
  (lt (Decidable.decide (x9.2.1 < x10)) fun (x11 : Bool) =>
  (if (x11 = Bool.true) then
  (shr (d15_K8 x8) (fun (x12 : (((WI × (WI × (WI × (WI × Unit)))) × (Int × (Bool × (Int × Unit)))) → (Option ((Bool × Unit) × Unit)))) => (if (((Decidable.decide ((0 : Int) ≤ x9.2.1)) && (Decidable.decide (x9.2.1 < (((List.length (List.take x9.1.1.2.1.2 x9.1.1.2.1.1)) : Nat) : Int)))) = Bool.true) then
  (lt (List.getD (List.take x9.1.1.2.1.2 x9.1.1.2.1.1) (Int.toNat x9.2.1) ((0 : Int), ((0 : Int), (Bool.false, ((0 : Int), ((0 : Int), ((0 : Int), ()))))))) fun (x13 : PO) =>
  (if (((Decidable.decide ((0 : Int) ≤ x9.2.1)) && (Decidable.decide (x9.2.1 < ((x9.1.2.1.2.1.2 : Nat) : Int)))) = Bool.true) then
  (if (((Decidable.decide ((Int.toNat x9.2.1) < x9.1.2.1.2.1.2)) && ((Decidable.decide ((Int.toNat x9.2.1) < (List.length x9.1.2.1.2.1.1))) && Bool.true)) = Bool.true) then
  (x12 ((x9.1.1, ((x9.1.2.1.1, (((List.set x9.1.2.1.2.1.1 (Int.toNat x9.2.1) x13), x9.1.2.1.2.1.2), x9.1.2.1.2.2)), (x9.1.2.2.1, (x9.1.2.2.2.1, ())))), (x9.2.2.1, (x9.2.2.2.1, (x9.2.1, ())))))
  else (Option.none))
  else (Option.none)))
  else (Option.none))))
  else (x7 ((x9.1.2.2.1, (x9.1.2.1, (x9.1.1, (x9.1.2.2.2.1, ())))), (x9.2.2.1, (x9.2.2.2.1, ())))))))))
def d15 : (Nat → ((WI × (WI × (Int × Unit))) → (Option ((Bool × Unit) × Unit)))) :=
  (fun (x0 : Nat) => (fun (x1 : (WI × (WI × (Int × Unit)))) => (Option.bind (d5 x0 (x1.2.1, ())) fun (x2 : ((WI × Unit) × Unit)) =>
  (Option.bind (d5 x0 (x1.2.1, ())) fun (x3 : ((WI × Unit) × Unit)) =>
  (Option.bind (d35 x0 (x1.2.1.2.1, ())) fun (x4 : ((((List PO) × Nat) × Unit) × Unit)) =>
  (Option.bind (d35 x0 (x1.2.1.2.1, ())) fun (x5 : ((((List PO) × Nat) × Unit) × Unit)) =>
  (Option.bind (d6 x0 (((List.map (fun (x6 : WP) => ((x6.1.1, (x6.1.2.1, (x6.1.2.2.1, (x6.1.2.2.2.1, x6.1.2.2.2.2)))), (x6.2.1, (x6.2.2.1, ((List.map (fun (x7 : Int) => x7) (List.take x6.2.2.2.1.2 x6.2.2.2.1.1)), ((List.map (fun (x7 : IS) => (x7.1, (x7.2.1, (x7.2.2.1, (x7.2.2.2.1, (x7.2.2.2.2.1, x7.2.2.2.2.2)))))) (List.take x6.2.2.2.2.1.2 x6.2.2.2.2.1.1)), ((List.map (fun (x7 : PC) => (x7.1, (x7.2.1, (x7.2.2.1, (x7.2.2.2.1, (x7.2.2.2.2.1, (x7.2.2.2.2.2.1, x7.2.2.2.2.2.2))))))) (List.take x6.2.2.2.2.2.1.2 x6.2.2.2.2.2.1.1)), (x6.2.2.2.2.2.2.1, ((List.map (fun (x7 : Int) => x7) x6.2.2.2.2.2.2.2.1), ((List.map (fun (x7 : I2) => (x7.1, (x7.2.1, x7.2.2))) (List.take x6.2.2.2.2.2.2.2.2.1.2 x6.2.2.2.2.2.2.2.2.1.1)), ((List.map (fun (x7 : Bool) => x7) (List.take x6.2.2.2.2.2.2.2.2.2.1.2 x6.2.2.2.2.2.2.2.2.2.1.1)), ((List.map (fun (x7 : I2) => (x7.1, (x7.2.1, x7.2.2))) (List.take x6.2.2.2.2.2.2.2.2.2.2.1.2 x6.2.2.2.2.2.2.2.2.2.2.1.1)), x6.2.2.2.2.2.2.2.2.2.2.2)))))))))))) (List.take x1.1.1.2 x1.1.1.1)), ((List.map (fun (x6 : PO) => (x6.1, (x6.2.1, (x6.2.2.1, (x6.2.2.2.1, (x6.2.2.2.2.1, (x6.2.2.2.2.2.1, x6.2.2.2.2.2.2))))))) (List.take x1.1.2.1.2 x1.1.2.1.1)), ((List.map (fun (x6 : WC) => (x6.1, (x6.2.1, ((List.map (fun (x7 : Int) => x7) (List.take x6.2.2.1.2 x6.2.2.1.1)), (x6.2.2.2.1, (x6.2.2.2.2.1, x6.2.2.2.2.2)))))) (List.take x1.1.2.2.1.2 x1.1.2.2.1.1)), x1.1.2.2.2))), (((List.map (fun (x6 : WP) => ((x6.1.1, (x6.1.2.1, (x6.1.2.2.1, (x6.1.2.2.2.1, x6.1.2.2.2.2)))), (x6.2.1, (x6.2.2.1, ((List.map (fun (x7 : Int) => x7) (List.take x6.2.2.2.1.2 x6.2.2.2.1.1)), ((List.map (fun (x7 : IS) => (x7.1, (x7.2.1, (x7.2.2.1, (x7.2.2.2.1, (x7.2.2.2.2.1, x7.2.2.2.2.2)))))) (List.take x6.2.2.2.2.1.2 x6.2.2.2.2.1.1)), ((List.map (fun (x7 : PC) => (x7.1, (x7.2.1, (x7.2.2.1, (x7.2.2.2.1, (x7.2.2.2.2.1, (x7.2.2.2.2.2.1, x7.2.2.2.2.2.2))))))) (List.take x6.2.2.2.2.2.1.2 x6.2.2.2.2.2.1.1)), (x6.2.2.2.2.2.2.1, ((List.map (fun (x7 : Int) => x7) x6.2.2.2.2.2.2.2.1), ((List.map (fun (x7 : I2) => (x7.1, (x7.2.1, x7.2.2))) (List.take x6.2.2.2.2.2.2.2.2.1.2 x6.2.2.2.2.2.2.2.2.1.1)), ((List.map (fun (x7 : Bool) => x7) (List.take x6.2.2.2.2.2.2.2.2.2.1.2 x6.2.2.2.2.2.2.2.2.2.1.1)), ((List.map (fun (x7 : I2) => (x7.1, (x7.2.1, x7.2.2))) (List.take x6.2.2.2.2.2.2.2.2.2.2.1.2 x6.2.2.2.2.2.2.2.2.2.2.1.1)), x6.2.2.2.2.2.2.2.2.2.2.2)))))))))))) (List.take x2.1.1.1.2 x2.1.1.1.1)), ((List.map (fun (x6 : PO) => (x6.1, (x6.2.1, (x6.2.2.1, (x6.2.2.2.1, (x6.2.2.2.2.1, (x6.2.2.2.2.2.1, x6.2.2.2.2.2.2))))))) (List.take x4.1.1.2 x4.1.1.1)), ((List.map (fun (x6 : WC) => (x6.1, (x6.2.1, ((List.map (fun (x7 : Int) => x7) (List.take x6.2.2.1.2 x6.2.2.1.1)), (x6.2.2.2.1, (x6.2.2.2.2.1, x6.2.2.2.2.2)))))) (List.take x2.1.1.2.2.1.2 x2.1.1.2.2.1.1)), x2.1.1.2.2.2))), (x1.2.2.1, ())))) fun (x6 : ((Bool × (Int × Unit)) × Unit)) =>
  (shr (d15_K7 x0) (fun (x7 : (((WI × (WI × (WI × (WI × Unit)))) × (Int × (Bool × Unit))) → (Option ((Bool × Unit) × Unit)))) => (loopN (d15_L9 x7) x0 ((x1.2.1, ((x2.1.1.1, (x4.1.1, x2.1.1.2.2)), ((x3.1.1.1, (x5.1.1, x3.1.1.2.2)), (x1.1, ())))), ((0 : Int), (x1.2.2.1, (x6.1.1, ()))))))))))))))
theorem k15 : c_fn Try.prog ⟨[(5, ⟨s5, d5⟩), (35, ⟨s35, d35⟩), (6, ⟨s6, d6⟩), (10, ⟨s10, d10⟩)], ksW⟩ Try.f15 s15 h15 = some d15 := by kernel_rfl
/-- bulkhead/bulkheadlaw24.FlowAlikes -/
def s3 : Sig := ⟨[(kWI, .val), (kWI, .val), ((.win (.sl 66 kWN)), .val), ((.win (.sl 66 kWN)), .val), ((.int .i64), .val)], [(.bool, .val)]⟩
 def h3 : Hint := (.seq .leaf
   (.seq .leaf
   (.seq .leaf
   (.seq (.pre ⟨[((.ptr 26 kWI), (.ow (.pr .sh (.pr .sh (.pr (.ow .sh) .sh)))), (12, 0)), ((.ptr 26 kWI), (.ow .sh), (11, 0))], [((4, 0), (.val (.int .i64))), ((3, 0), (.val (.win (.sl 66 kWN)))), ((2, 0), (.val (.win (.sl 66 kWN)))), ((12, 0), (.own 0)), ((11, 0), (.own 1))]⟩ .leaf)
   (.seq (.pre ⟨[((.ptr 26 kWI), (.ow (.pr (.ow (.pr .sh (.pr .sh (.pr .sh (.pr (.ow .sh) (.pr (.ow .sh) (.pr (.ow .sh) (.pr .sh (.pr .sh (.pr (.ow .sh) (.pr (.ow .sh) (.pr (.ow .sh) .sh)))))))))))) (.pr (.ow .sh) (.pr (.ow .sh) .sh)))), (13, 0)), ((.ptr 26 kWI), (.ow .sh), (12, 0)), ((.ptr 26 kWI), (.ow .sh), (11, 0))], [((4, 0), (.val (.int .i64))), ((13, 0), (.own 0)), ((3, 0), (.val (.win (.sl 66 kWN)))), ((2, 0), (.val (.win (.sl 66 kWN)))), ((12, 0), (.own 1)), ((11, 0), (.own 2))]⟩ .leaf)
   (.seq .leaf
   (.seq .leaf
   (.seq .leaf
   (.seq .leaf
   (.seq (.seq .leaf
   (.cond none
     (.seq .leaf
     .leaf)
     .leaf))
   (.seq (.seq .leaf
   (.cond none
     (.seq .leaf
     .leaf)
     .leaf))
   (.seq (.seq .leaf
   (.cond none
     (.seq .leaf
     .leaf)
     .leaf))
   (.seq .leaf
   .leaf)))))))))))))
def d3 : (Nat → ((WI × (WI × (((List WN) × Nat) × (((List WN) × Nat) × (Int × Unit))))) → (Option ((Bool × Unit) × Unit)))) :=
  (fun (x0 : Nat) => (fun (x1 : (WI × (WI × (((List WN) × Nat) × (((List WN) × Nat) × (Int × Unit)))))) => (Option.bind (d4 x0 (x1.1, ())) fun (x2 : ((WI × Unit) × Unit)) =>
  (Option.bind (d4 x0 (x1.2.1, ())) fun (x3 : ((WI × Unit) × Unit)) =>
  (Option.bind (d5 x0 (x2.1.1, ())) fun (x4 : ((WI × Unit) × Unit)) =>
  (Option.bind (d5 x0 (x3.1.1, ())) fun (x5 : ((WI × Unit) × Unit)) =>
  (Option.bind (d6 x0 (((List.map (fun (x6 : WP) => ((x6.1.1, (x6.1.2.1, (x6.1.2.2.1, (x6.1.2.2.2.1, x6.1.2.2.2.2)))), (x6.2.1, (x6.2.2.1, ((List.map (fun (x7 : Int) => x7) (List.take x6.2.2.2.1.2 x6.2.2.2.1.1)), ((List.map (fun (x7 : IS) => (x7.1, (x7.2.1, (x7.2.2.1, (x7.2.2.2.1, (x7.2.2.2.2.1, x7.2.2.2.2.2)))))) (List.take x6.2.2.2.2.1.2 x6.2.2.2.2.1.1)), ((List.map (fun (x7 : PC) => (x7.1, (x7.2.1, (x7.2.2.1, (x7.2.2.2.1, (x7.2.2.2.2.1, (x7.2.2.2.2.2.1, x7.2.2.2.2.2.2))))))) (List.take x6.2.2.2.2.2.1.2 x6.2.2.2.2.2.1.1)), (x6.2.2.2.2.2.2.1, ((List.map (fun (x7 : Int) => x7) x6.2.2.2.2.2.2.2.1), ((List.map (fun (x7 : I2) => (x7.1, (x7.2.1, x7.2.2))) (List.take x6.2.2.2.2.2.2.2.2.1.2 x6.2.2.2.2.2.2.2.2.1.1)), ((List.map (fun (x7 : Bool) => x7) (List.take x6.2.2.2.2.2.2.2.2.2.1.2 x6.2.2.2.2.2.2.2.2.2.1.1)), ((List.map (fun (x7 : I2) => (x7.1, (x7.2.1, x7.2.2))) (List.take x6.2.2.2.2.2.2.2.2.2.2.1.2 x6.2.2.2.2.2.2.2.2.2.2.1.1)), x6.2.2.2.2.2.2.2.2.2.2.2)))))))))))) (List.take x4.1.1.1.2 x4.1.1.1.1)), ((List.map (fun (x6 : PO) => (x6.1, (x6.2.1, (x6.2.2.1, (x6.2.2.2.1, (x6.2.2.2.2.1, (x6.2.2.2.2.2.1, x6.2.2.2.2.2.2))))))) (List.take x4.1.1.2.1.2 x4.1.1.2.1.1)), ((List.map (fun (x6 : WC) => (x6.1, (x6.2.1, ((List.map (fun (x7 : Int) => x7) (List.take x6.2.2.1.2 x6.2.2.1.1)), (x6.2.2.2.1, (x6.2.2.2.2.1, x6.2.2.2.2.2)))))) (List.take x4.1.1.2.2.1.2 x4.1.1.2.2.1.1)), x4.1.1.2.2.2))), (((List.map (fun (x6 : WP) => ((x6.1.1, (x6.1.2.1, (x6.1.2.2.1, (x6.1.2.2.2.1, x6.1.2.2.2.2)))), (x6.2.1, (x6.2.2.1, ((List.map (fun (x7 : Int) => x7) (List.take x6.2.2.2.1.2 x6.2.2.2.1.1)), ((List.map (fun (x7 : IS) => (x7.1, (x7.2.1, (x7.2.2.1, (x7.2.2.2.1, (x7.2.2.2.2.1, x7.2.2.2.2.2)))))) (List.take x6.2.2.2.2.1.2 x6.2.2.2.2.1.1)), ((List.map (fun (x7 : PC) => (x7.1, (x7.2.1, (x7.2.2.1, (x7.2.2.2.1, (x7.2.2.2.2.1, (x7.2.2.2.2.2.1, x7.2.2.2.2.2.2))))))) (List.take x6.2.2.2.2.2.1.2 x6.2.2.2.2.2.1.1)), (x6.2.2.2.2.2.2.1, ((List.map (fun (x7 : Int) => x7) x6.2.2.2.2.2.2.2.1), ((List.map (fun (x7 : I2) => (x7.1, (x7.2.1, x7.2.2))) (List.take x6.2.2.2.2.2.2.2.2.1.2 x6.2.2.2.2.2.2.2.2.1.1)), ((List.map (fun (x7 : Bool) => x7) (List.take x6.2.2.2.2.2.2.2.2.2.1.2 x6.2.2.2.2.2.2.2.2.2.1.1)), ((List.map (fun (x7 : I2) => (x7.1, (x7.2.1, x7.2.2))) (List.take x6.2.2.2.2.2.2.2.2.2.2.1.2 x6.2.2.2.2.2.2.2.2.2.2.1.1)), x6.2.2.2.2.2.2.2.2.2.2.2)))))))))))) (List.take x5.1.1.1.2 x5.1.1.1.1)), ((List.map (fun (x6 : PO) => (x6.1, (x6.2.1, (x6.2.2.1, (x6.2.2.2.1, (x6.2.2.2.2.1, (x6.2.2.2.2.2.1, x6.2.2.2.2.2.2))))))) (List.take x5.1.1.2.1.2 x5.1.1.2.1.1)), ((List.map (fun (x6 : WC) => (x6.1, (x6.2.1, ((List.map (fun (x7 : Int) => x7) (List.take x6.2.2.1.2 x6.2.2.1.1)), (x6.2.2.2.1, (x6.2.2.2.2.1, x6.2.2.2.2.2)))))) (List.take x5.1.1.2.2.1.2 x5.1.1.2.2.1.1)), x5.1.1.2.2.2))), (x1.2.2.2.2.1, ())))) fun (x6 : ((Bool × (Int × Unit)) × Unit)) =>
  (Option.bind (d7 x0 (x1.2.2.1, ())) fun (x7 : ((((List WN) × Nat) × Unit) × Unit)) =>
  (Option.bind (d7 x0 (x1.2.2.2.1, ())) fun (x8 : ((((List WN) × Nat) × Unit) × Unit)) =>
  (Option.bind (d8 x0 (((List.map (fun (x9 : WP) => ((x9.1.1, (x9.1.2.1, (x9.1.2.2.1, (x9.1.2.2.2.1, x9.1.2.2.2.2)))), (x9.2.1, (x9.2.2.1, ((List.map (fun (x10 : Int) => x10) (List.take x9.2.2.2.1.2 x9.2.2.2.1.1)), ((List.map (fun (x10 : IS) => (x10.1, (x10.2.1, (x10.2.2.1, (x10.2.2.2.1, (x10.2.2.2.2.1, x10.2.2.2.2.2)))))) (List.take x9.2.2.2.2.1.2 x9.2.2.2.2.1.1)), ((List.map (fun (x10 : PC) => (x10.1, (x10.2.1, (x10.2.2.1, (x10.2.2.2.1, (x10.2.2.2.2.1, (x10.2.2.2.2.2.1, x10.2.2.2.2.2.2))))))) (List.take x9.2.2.2.2.2.1.2 x9.2.2.2.2.2.1.1)), (x9.2.2.2.2.2.2.1, ((List.map (fun (x10 : Int) => x10) x9.2.2.2.2.2.2.2.1), ((List.map (fun (x10 : I2) => (x10.1, (x10.2.1, x10.2.2))) (List.take x9.2.2.2.2.2.2.2.2.1.2 x9.2.2.2.2.2.2.2.2.1.1)), ((List.map (fun (x10 : Bool) => x10) (List.take x9.2.2.2.2.2.2.2.2.2.1.2 x9.2.2.2.2.2.2.2.2.2.1.1)), ((List.map (fun (x10 : I2) => (x10.1, (x10.2.1, x10.2.2))) (List.take x9.2.2.2.2.2.2.2.2.2.2.1.2 x9.2.2.2.2.2.2.2.2.2.2.1.1)), x9.2.2.2.2.2.2.2.2.2.2.2)))))))))))) (List.take x4.1.1.1.2 x4.1.1.1.1)), ((List.map (fun (x9 : PO) => (x9.1, (x9.2.1, (x9.2.2.1, (x9.2.2.2.1, (x9.2.2.2.2.1, (x9.2.2.2.2.2.1, x9.2.2.2.2.2.2))))))) (List.take x4.1.1.2.1.2 x4.1.1.2.1.1)), ((List.map (fun (x9 : WC) => (x9.1, (x9.2.1, ((List.map (fun (x10 : Int) => x10) (List.take x9.2.2.1.2 x9.2.2.1.1)), (x9.2.2.2.1, (x9.2.2.2.2.1, x9.2.2.2.2.2)))))) (List.take x4.1.1.2.2.1.2 x4.1.1.2.2.1.1)), x4.1.1.2.2.2))), ((List.map (fun (x9 : WN) => (x9.1, (x9.2.1, (x9.2.2.1, ((List.map (fun (x10 : Int) => x10) (List.take x9.2.2.2.1.2 x9.2.2.2.1.1)), x9.2.2.2.2))))) (List.take x7.1.1.2 x7.1.1.1)), ((List.map (fun (x9 : WN) => (x9.1, (x9.2.1, (x9.2.2.1, ((List.map (fun (x10 : Int) => x10) (List.take x9.2.2.2.1.2 x9.2.2.2.1.1)), x9.2.2.2.2))))) (List.take x8.1.1.2 x8.1.1.1)), (x1.2.2.2.2.1, ()))))) fun (x9 : ((Bool × (Int × Unit)) × Unit)) =>
  (Option.bind (d9 x0 (x7.1.1, (x1.2.2.1, ()))) fun (x10 : ((Bool × Unit) × Unit)) =>
  (lt (Bool.not x10.1.1) fun (x11 : Bool) =>
  (Option.bind (if (((x11 == Bool.false) && Bool.true) = Bool.true) then
  (d9 x0 (x8.1.1, (x1.2.2.2.1, ())))
  else (Option.some ((Bool.false, ()), ()))) fun (x12 : ((Bool × Unit) × Unit)) =>
  (lt (Bool.not x12.1.1) fun (x13 : Bool) =>
  (lt (if (x11 = Bool.true) then
  Bool.true
  else x13) fun (x14 : Bool) =>
  (if (x14 = Bool.true) then
  (Option.some ((Bool.false, ()), ()))
  else (lt (Decidable.decide (x1.2.2.2.2.1 < (1 : Int))) fun (x15 : Bool) =>
  (lt ((x4.1.1.1.2 : Nat) : Int) fun (x16 : Int) =>
  (lt (Decidable.decide (x1.2.2.2.2.1 > x16)) fun (x17 : Bool) =>
  (lt (if (x15 = Bool.true) then
  Bool.true
  else x17) fun (x18 : Bool) =>
  (if (x18 = Bool.true) then
  (lt (x6.1.2.1 == (220 : Int)) fun (x19 : Bool) =>
  (lt (x9.1.2.1 == (220 : Int)) fun (x20 : Bool) =>
  (lt (if (x19 = Bool.true) then
  x20
  else Bool.false) fun (x21 : Bool) =>
  (lt (Bool.not x6.1.1) fun (x22 : Bool) =>
  (lt (if (x21 = Bool.true) then
  x22
  else Bool.false) fun (x23 : Bool) =>
  (lt (Bool.not x9.1.1) fun (x24 : Bool) =>
  (Option.some (((if (x23 = Bool.true) then
  x24
  else Bool.false), ()), ()))))))))
  else (lt (x6.1.2.1 != (0 : Int)) fun (x19 : Bool) =>
  (lt (x9.1.2.1 != (0 : Int)) fun (x20 : Bool) =>
  (lt (if (x19 = Bool.true) then
  Bool.true
  else x20) fun (x21 : Bool) =>
  (Option.bind (if (((x21 == Bool.false) && Bool.true) = Bool.true) then
  (d10 x0 (((List.map (fun (x22 : WP) => ((x22.1.1, (x22.1.2.1, (x22.1.2.2.1, (x22.1.2.2.2.1, x22.1.2.2.2.2)))), (x22.2.1, (x22.2.2.1, ((List.map (fun (x23 : Int) => x23) (List.take x22.2.2.2.1.2 x22.2.2.2.1.1)), ((List.map (fun (x23 : IS) => (x23.1, (x23.2.1, (x23.2.2.1, (x23.2.2.2.1, (x23.2.2.2.2.1, x23.2.2.2.2.2)))))) (List.take x22.2.2.2.2.1.2 x22.2.2.2.2.1.1)), ((List.map (fun (x23 : PC) => (x23.1, (x23.2.1, (x23.2.2.1, (x23.2.2.2.1, (x23.2.2.2.2.1, (x23.2.2.2.2.2.1, x23.2.2.2.2.2.2))))))) (List.take x22.2.2.2.2.2.1.2 x22.2.2.2.2.2.1.1)), (x22.2.2.2.2.2.2.1, ((List.map (fun (x23 : Int) => x23) x22.2.2.2.2.2.2.2.1), ((List.map (fun (x23 : I2) => (x23.1, (x23.2.1, x23.2.2))) (List.take x22.2.2.2.2.2.2.2.2.1.2 x22.2.2.2.2.2.2.2.2.1.1)), ((List.map (fun (x23 : Bool) => x23) (List.take x22.2.2.2.2.2.2.2.2.2.1.2 x22.2.2.2.2.2.2.2.2.2.1.1)), ((List.map (fun (x23 : I2) => (x23.1, (x23.2.1, x23.2.2))) (List.take x22.2.2.2.2.2.2.2.2.2.2.1.2 x22.2.2.2.2.2.2.2.2.2.2.1.1)), x22.2.2.2.2.2.2.2.2.2.2.2)))))))))))) (List.take x2.1.1.1.2 x2.1.1.1.1)), ((List.map (fun (x22 : PO) => (x22.1, (x22.2.1, (x22.2.2.1, (x22.2.2.2.1, (x22.2.2.2.2.1, (x22.2.2.2.2.2.1, x22.2.2.2.2.2.2))))))) (List.take x2.1.1.2.1.2 x2.1.1.2.1.1)), ((List.map (fun (x22 : WC) => (x22.1, (x22.2.1, ((List.map (fun (x23 : Int) => x23) (List.take x22.2.2.1.2 x22.2.2.1.1)), (x22.2.2.2.1, (x22.2.2.2.2.1, x22.2.2.2.2.2)))))) (List.take x2.1.1.2.2.1.2 x2.1.1.2.2.1.1)), x2.1.1.2.2.2))), (((List.map (fun (x22 : WP) => ((x22.1.1, (x22.1.2.1, (x22.1.2.2.1, (x22.1.2.2.2.1, x22.1.2.2.2.2)))), (x22.2.1, (x22.2.2.1, ((List.map (fun (x23 : Int) => x23) (List.take x22.2.2.2.1.2 x22.2.2.2.1.1)), ((List.map (fun (x23 : IS) => (x23.1, (x23.2.1, (x23.2.2.1, (x23.2.2.2.1, (x23.2.2.2.2.1, x23.2.2.2.2.2)))))) (List.take x22.2.2.2.2.1.2 x22.2.2.2.2.1.1)), ((List.map (fun (x23 : PC) => (x23.1, (x23.2.1, (x23.2.2.1, (x23.2.2.2.1, (x23.2.2.2.2.1, (x23.2.2.2.2.2.1, x23.2.2.2.2.2.2))))))) (List.take x22.2.2.2.2.2.1.2 x22.2.2.2.2.2.1.1)), (x22.2.2.2.2.2.2.1, ((List.map (fun (x23 : Int) => x23) x22.2.2.2.2.2.2.2.1), ((List.map (fun (x23 : I2) => (x23.1, (x23.2.1, x23.2.2))) (List.take x22.2.2.2.2.2.2.2.2.1.2 x22.2.2.2.2.2.2.2.2.1.1)), ((List.map (fun (x23 : Bool) => x23) (List.take x22.2.2.2.2.2.2.2.2.2.1.2 x22.2.2.2.2.2.2.2.2.2.1.1)), ((List.map (fun (x23 : I2) => (x23.1, (x23.2.1, x23.2.2))) (List.take x22.2.2.2.2.2.2.2.2.2.2.1.2 x22.2.2.2.2.2.2.2.2.2.2.1.1)), x22.2.2.2.2.2.2.2.2.2.2.2)))))))))))) (List.take x3.1.1.1.2 x3.1.1.1.1)), ((List.map (fun (x22 : PO) => (x22.1, (x22.2.1, (x22.2.2.1, (x22.2.2.2.1, (x22.2.2.2.2.1, (x22.2.2.2.2.2.1, x22.2.2.2.2.2.2))))))) (List.take x3.1.1.2.1.2 x3.1.1.2.1.1)), ((List.map (fun (x22 : WC) => (x22.1, (x22.2.1, ((List.map (fun (x23 : Int) => x23) (List.take x22.2.2.1.2 x22.2.2.1.1)), (x22.2.2.2.1, (x22.2.2.2.2.1, x22.2.2.2.2.2)))))) (List.take x3.1.1.2.2.1.2 x3.1.1.2.2.1.1)), x3.1.1.2.2.2))), (x1.2.2.2.2.1, ()))))
  else (Option.some ((Bool.false, ()), ()))) fun (x22 : ((Bool × Unit) × Unit)) =>
  (lt (Bool.not (x6.1.1 == x22.1.1)) fun (x23 : Bool) =>
  (lt (if (x21 = Bool.true) then
  Bool.true
  else x23) fun (x24 : Bool) =>
  (Option.bind (if (((x24 == Bool.false) && Bool.true) = Bool.true) then
  (d11 x0 (((List.map (fun (x25 : WP) => ((x25.1.1, (x25.1.2.1, (x25.1.2.2.1, (x25.1.2.2.2.1, x25.1.2.2.2.2)))), (x25.2.1, (x25.2.2.1, ((List.map (fun (x26 : Int) => x26) (List.take x25.2.2.2.1.2 x25.2.2.2.1.1)), ((List.map (fun (x26 : IS) => (x26.1, (x26.2.1, (x26.2.2.1, (x26.2.2.2.1, (x26.2.2.2.2.1, x26.2.2.2.2.2)))))) (List.take x25.2.2.2.2.1.2 x25.2.2.2.2.1.1)), ((List.map (fun (x26 : PC) => (x26.1, (x26.2.1, (x26.2.2.1, (x26.2.2.2.1, (x26.2.2.2.2.1, (x26.2.2.2.2.2.1, x26.2.2.2.2.2.2))))))) (List.take x25.2.2.2.2.2.1.2 x25.2.2.2.2.2.1.1)), (x25.2.2.2.2.2.2.1, ((List.map (fun (x26 : Int) => x26) x25.2.2.2.2.2.2.2.1), ((List.map (fun (x26 : I2) => (x26.1, (x26.2.1, x26.2.2))) (List.take x25.2.2.2.2.2.2.2.2.1.2 x25.2.2.2.2.2.2.2.2.1.1)), ((List.map (fun (x26 : Bool) => x26) (List.take x25.2.2.2.2.2.2.2.2.2.1.2 x25.2.2.2.2.2.2.2.2.2.1.1)), ((List.map (fun (x26 : I2) => (x26.1, (x26.2.1, x26.2.2))) (List.take x25.2.2.2.2.2.2.2.2.2.2.1.2 x25.2.2.2.2.2.2.2.2.2.2.1.1)), x25.2.2.2.2.2.2.2.2.2.2.2)))))))))))) (List.take x2.1.1.1.2 x2.1.1.1.1)), ((List.map (fun (x25 : PO) => (x25.1, (x25.2.1, (x25.2.2.1, (x25.2.2.2.1, (x25.2.2.2.2.1, (x25.2.2.2.2.2.1, x25.2.2.2.2.2.2))))))) (List.take x2.1.1.2.1.2 x2.1.1.2.1.1)), ((List.map (fun (x25 : WC) => (x25.1, (x25.2.1, ((List.map (fun (x26 : Int) => x26) (List.take x25.2.2.1.2 x25.2.2.1.1)), (x25.2.2.2.1, (x25.2.2.2.2.1, x25.2.2.2.2.2)))))) (List.take x2.1.1.2.2.1.2 x2.1.1.2.2.1.1)), x2.1.1.2.2.2))), ((List.map (fun (x25 : WN) => (x25.1, (x25.2.1, (x25.2.2.1, ((List.map (fun (x26 : Int) => x26) (List.take x25.2.2.2.1.2 x25.2.2.2.1.1)), x25.2.2.2.2))))) (List.take x1.2.2.1.2 x1.2.2.1.1)), ((List.map (fun (x25 : WN) => (x25.1, (x25.2.1, (x25.2.2.1, ((List.map (fun (x26 : Int) => x26) (List.take x25.2.2.2.1.2 x25.2.2.2.1.1)), x25.2.2.2.2))))) (List.take x1.2.2.2.1.2 x1.2.2.2.1.1)), (x1.2.2.2.2.1, ())))))
  else (Option.some ((Bool.false, ()), ()))) fun (x25 : ((Bool × Unit) × Unit)) =>
  (lt (Bool.not (x9.1.1 == x25.1.1)) fun (x26 : Bool) =>
  (lt (if (x24 = Bool.true) then
  Bool.true
  else x26) fun (x27 : Bool) =>
  (if (x27 = Bool.true) then
  (Option.some ((Bool.false, ()), ()))
  else (Option.bind (d12 x0 (((List.map (fun (x28 : WP) => ((x28.1.1, (x28.1.2.1, (x28.1.2.2.1, (x28.1.2.2.2.1, x28.1.2.2.2.2)))), (x28.2.1, (x28.2.2.1, ((List.map (fun (x29 : Int) => x29) (List.take x28.2.2.2.1.2 x28.2.2.2.1.1)), ((List.map (fun (x29 : IS) => (x29.1, (x29.2.1, (x29.2.2.1, (x29.2.2.2.1, (x29.2.2.2.2.1, x29.2.2.2.2.2)))))) (List.take x28.2.2.2.2.1.2 x28.2.2.2.2.1.1)), ((List.map (fun (x29 : PC) => (x29.1, (x29.2.1, (x29.2.2.1, (x29.2.2.2.1, (x29.2.2.2.2.1, (x29.2.2.2.2.2.1, x29.2.2.2.2.2.2))))))) (List.take x28.2.2.2.2.2.1.2 x28.2.2.2.2.2.1.1)), (x28.2.2.2.2.2.2.1, ((List.map (fun (x29 : Int) => x29) x28.2.2.2.2.2.2.2.1), ((List.map (fun (x29 : I2) => (x29.1, (x29.2.1, x29.2.2))) (List.take x28.2.2.2.2.2.2.2.2.1.2 x28.2.2.2.2.2.2.2.2.1.1)), ((List.map (fun (x29 : Bool) => x29) (List.take x28.2.2.2.2.2.2.2.2.2.1.2 x28.2.2.2.2.2.2.2.2.2.1.1)), ((List.map (fun (x29 : I2) => (x29.1, (x29.2.1, x29.2.2))) (List.take x28.2.2.2.2.2.2.2.2.2.2.1.2 x28.2.2.2.2.2.2.2.2.2.2.1.1)), x28.2.2.2.2.2.2.2.2.2.2.2)))))))))))) (List.take x4.1.1.1.2 x4.1.1.1.1)), ((List.map (fun (x28 : PO) => (x28.1, (x28.2.1, (x28.2.2.1, (x28.2.2.2.1, (x28.2.2.2.2.1, (x28.2.2.2.2.2.1, x28.2.2.2.2.2.2))))))) (List.take x4.1.1.2.1.2 x4.1.1.2.1.1)), ((List.map (fun (x28 : WC) => (x28.1, (x28.2.1, ((List.map (fun (x29 : Int) => x29) (List.take x28.2.2.1.2 x28.2.2.1.1)), (x28.2.2.2.1, (x28.2.2.2.2.1, x28.2.2.2.2.2)))))) (List.take x4.1.1.2.2.1.2 x4.1.1.2.2.1.1)), x4.1.1.2.2.2))), (((List.map (fun (x28 : WP) => ((x28.1.1, (x28.1.2.1, (x28.1.2.2.1, (x28.1.2.2.2.1, x28.1.2.2.2.2)))), (x28.2.1, (x28.2.2.1, ((List.map (fun (x29 : Int) => x29) (List.take x28.2.2.2.1.2 x28.2.2.2.1.1)), ((List.map (fun (x29 : IS) => (x29.1, (x29.2.1, (x29.2.2.1, (x29.2.2.2.1, (x29.2.2.2.2.1, x29.2.2.2.2.2)))))) (List.take x28.2.2.2.2.1.2 x28.2.2.2.2.1.1)), ((List.map (fun (x29 : PC) => (x29.1, (x29.2.1, (x29.2.2.1, (x29.2.2.2.1, (x29.2.2.2.2.1, (x29.2.2.2.2.2.1, x29.2.2.2.2.2.2))))))) (List.take x28.2.2.2.2.2.1.2 x28.2.2.2.2.2.1.1)), (x28.2.2.2.2.2.2.1, ((List.map (fun (x29 : Int) => x29) x28.2.2.2.2.2.2.2.1), ((List.map (fun (x29 : I2) => (x29.1, (x29.2.1, x29.2.2))) (List.take x28.2.2.2.2.2.2.2.2.1.2 x28.2.2.2.2.2.2.2.2.1.1)), ((List.map (fun (x29 : Bool) => x29) (List.take x28.2.2.2.2.2.2.2.2.2.1.2 x28.2.2.2.2.2.2.2.2.2.1.1)), ((List.map (fun (x29 : I2) => (x29.1, (x29.2.1, x29.2.2))) (List.take x28.2.2.2.2.2.2.2.2.2.2.1.2 x28.2.2.2.2.2.2.2.2.2.2.1.1)), x28.2.2.2.2.2.2.2.2.2.2.2)))))))))))) (List.take x2.1.1.1.2 x2.1.1.1.1)), ((List.map (fun (x28 : PO) => (x28.1, (x28.2.1, (x28.2.2.1, (x28.2.2.2.1, (x28.2.2.2.2.1, (x28.2.2.2.2.2.1, x28.2.2.2.2.2.2))))))) (List.take x2.1.1.2.1.2 x2.1.1.2.1.1)), ((List.map (fun (x28 : WC) => (x28.1, (x28.2.1, ((List.map (fun (x29 : Int) => x29) (List.take x28.2.2.1.2 x28.2.2.1.1)), (x28.2.2.2.1, (x28.2.2.2.2.1, x28.2.2.2.2.2)))))) (List.take x2.1.1.2.2.1.2 x2.1.1.2.2.1.1)), x2.1.1.2.2.2))), ()))) fun (x28 : ((Bool × Unit) × Unit)) =>
  (Option.bind (if (((x28.1.1 == Bool.true) && Bool.true) = Bool.true) then
  (d12 x0 (((List.map (fun (x29 : WP) => ((x29.1.1, (x29.1.2.1, (x29.1.2.2.1, (x29.1.2.2.2.1, x29.1.2.2.2.2)))), (x29.2.1, (x29.2.2.1, ((List.map (fun (x30 : Int) => x30) (List.take x29.2.2.2.1.2 x29.2.2.2.1.1)), ((List.map (fun (x30 : IS) => (x30.1, (x30.2.1, (x30.2.2.1, (x30.2.2.2.1, (x30.2.2.2.2.1, x30.2.2.2.2.2)))))) (List.take x29.2.2.2.2.1.2 x29.2.2.2.2.1.1)), ((List.map (fun (x30 : PC) => (x30.1, (x30.2.1, (x30.2.2.1, (x30.2.2.2.1, (x30.2.2.2.2.1, (x30.2.2.2.2.2.1, x30.2.2.2.2.2.2))))))) (List.take x29.2.2.2.2.2.1.2 x29.2.2.2.2.2.1.1)), (x29.2.2.2.2.2.2.1, ((List.map (fun (x30 : Int) => x30) x29.2.2.2.2.2.2.2.1), ((List.map (fun (x30 : I2) => (x30.1, (x30.2.1, x30.2.2))) (List.take x29.2.2.2.2.2.2.2.2.1.2 x29.2.2.2.2.2.2.2.2.1.1)), ((List.map (fun (x30 : Bool) => x30) (List.take x29.2.2.2.2.2.2.2.2.2.1.2 x29.2.2.2.2.2.2.2.2.2.1.1)), ((List.map (fun (x30 : I2) => (x30.1, (x30.2.1, x30.2.2))) (List.take x29.2.2.2.2.2.2.2.2.2.2.1.2 x29.2.2.2.2.2.2.2.2.2.2.1.1)), x29.2.2.2.2.2.2.2.2.2.2.2)))))))))))) (List.take x5.1.1.1.2 x5.1.1.1.1)), ((List.map (fun (x29 : PO) => (x29.1, (x29.2.1, (x29.2.2.1, (x29.2.2.2.1, (x29.2.2.2.2.1, (x29.2.2.2.2.2.1, x29.2.2.2.2.2.2))))))) (List.take x5.1.1.2.1.2 x5.1.1.2.1.1)), ((List.map (fun (x29 : WC) => (x29.1, (x29.2.1, ((List.map (fun (x30 : Int) => x30) (List.take x29.2.2.1.2 x29.2.2.1.1)), (x29.2.2.2.1, (x29.2.2.2.2.1, x29.2.2.2.2.2)))))) (List.take x5.1.1.2.2.1.2 x5.1.1.2.2.1.1)), x5.1.1.2.2.2))), (((List.map (fun (x29 : WP) => ((x29.1.1, (x29.1.2.1, (x29.1.2.2.1, (x29.1.2.2.2.1, x29.1.2.2.2.2)))), (x29.2.1, (x29.2.2.1, ((List.map (fun (x30 : Int) => x30) (List.take x29.2.2.2.1.2 x29.2.2.2.1.1)), ((List.map (fun (x30 : IS) => (x30.1, (x30.2.1, (x30.2.2.1, (x30.2.2.2.1, (x30.2.2.2.2.1, x30.2.2.2.2.2)))))) (List.take x29.2.2.2.2.1.2 x29.2.2.2.2.1.1)), ((List.map (fun (x30 : PC) => (x30.1, (x30.2.1, (x30.2.2.1, (x30.2.2.2.1, (x30.2.2.2.2.1, (x30.2.2.2.2.2.1, x30.2.2.2.2.2.2))))))) (List.take x29.2.2.2.2.2.1.2 x29.2.2.2.2.2.1.1)), (x29.2.2.2.2.2.2.1, ((List.map (fun (x30 : Int) => x30) x29.2.2.2.2.2.2.2.1), ((List.map (fun (x30 : I2) => (x30.1, (x30.2.1, x30.2.2))) (List.take x29.2.2.2.2.2.2.2.2.1.2 x29.2.2.2.2.2.2.2.2.1.1)), ((List.map (fun (x30 : Bool) => x30) (List.take x29.2.2.2.2.2.2.2.2.2.1.2 x29.2.2.2.2.2.2.2.2.2.1.1)), ((List.map (fun (x30 : I2) => (x30.1, (x30.2.1, x30.2.2))) (List.take x29.2.2.2.2.2.2.2.2.2.2.1.2 x29.2.2.2.2.2.2.2.2.2.2.1.1)), x29.2.2.2.2.2.2.2.2.2.2.2)))))))))))) (List.take x3.1.1.1.2 x3.1.1.1.1)), ((List.map (fun (x29 : PO) => (x29.1, (x29.2.1, (x29.2.2.1, (x29.2.2.2.1, (x29.2.2.2.2.1, (x29.2.2.2.2.2.1, x29.2.2.2.2.2.2))))))) (List.take x3.1.1.2.1.2 x3.1.1.2.1.1)), ((List.map (fun (x29 : WC) => (x29.1, (x29.2.1, ((List.map (fun (x30 : Int) => x30) (List.take x29.2.2.1.2 x29.2.2.1.1)), (x29.2.2.2.1, (x29.2.2.2.2.1, x29.2.2.2.2.2)))))) (List.take x3.1.1.2.2.1.2 x3.1.1.2.2.1.1)), x3.1.1.2.2.2))), ())))
  else (Option.some ((Bool.false, ()), ()))) fun (x29 : ((Bool × Unit) × Unit)) =>
  (lt (if (x28.1.1 = Bool.true) then
  x29.1.1
  else Bool.false) fun (x30 : Bool) =>
  (Option.bind (if (((x30 == Bool.true) && Bool.true) = Bool.true) then
  (d13 x0 (x4.1.1, ()))
  else (Option.some ((Bool.false, ()), ()))) fun (x31 : ((Bool × Unit) × Unit)) =>
  (lt (if (x30 = Bool.true) then
  x31.1.1
  else Bool.false) fun (x32 : Bool) =>
  (Option.bind (if (((x32 == Bool.true) && Bool.true) = Bool.true) then
  (d13 x0 (x5.1.1, ()))
  else (Option.some ((Bool.false, ()), ()))) fun (x33 : ((Bool × Unit) × Unit)) =>
  (lt (if (x32 = Bool.true) then
  x33.1.1
  else Bool.false) fun (x34 : Bool) =>
  (Option.bind (if (((x34 == Bool.true) && Bool.true) = Bool.true) then
  (d14 x0 (x4.1.1, (x1.2.2.1, (x1.2.2.2.1, (x1.2.2.2.2.1, ())))))
  else (Option.some ((Bool.false, ()), ()))) fun (x35 : ((Bool × Unit) × Unit)) =>
  (lt (if (x34 = Bool.true) then
  x35.1.1
  else Bool.false) fun (x36 : Bool) =>
  (Option.bind (if (((x36 == Bool.true) && Bool.true) = Bool.true) then
  (d15 x0 (x4.1.1, (x5.1.1, (x1.2.2.2.2.1, ()))))
  else (Option.some ((Bool.false, ()), ()))) fun (x37 : ((Bool × Unit) × Unit)) =>
  (Option.some (((if (x36 = Bool.true) then
  x37.1.1
  else Bool.false), ()), ())))))))))))))))))))))))))))))))))))))))))))
theorem k3 : c_fn Try.prog ⟨[(4, ⟨s4, d4⟩), (5, ⟨s5, d5⟩), (6, ⟨s6, d6⟩), (7, ⟨s7, d7⟩), (8, ⟨s8, d8⟩), (9, ⟨s9, d9⟩), (10, ⟨s10, d10⟩), (11, ⟨s11, d11⟩), (12, ⟨s12, d12⟩), (13, ⟨s13, d13⟩), (14, ⟨s14, d14⟩), (15, ⟨s15, d15⟩)], ksW⟩ Try.f3 s3 h3 = some d3 := by kernel_rfl
end Go.Proofs.Ytledeaknnihlmaa.L
