import Derived.Test.YticemfakkgebhaaDoorScrD
namespace Go.Proofs.YticemfakkgebhaaDoor.L
open Go Go.Lift Go.Proofs
set_option maxRecDepth 100000
set_option linter.unusedVariables false

/-- bulkhead/codec.big -/
def s71 : Sig := ⟨[((.int .u64), .val), ((.int .i64), .val)], [((.sl 5 (.int .u8)), (.own (.ow .sh)))]⟩
 def h71 : Hint := (.seq .leaf
   (.seq .leaf
   (.seq (.seq .leaf
   (.block ⟨[((.sl 5 (.int .u8)), (.ow .sh), (5, 0))], [((5, 0), (.own 0))]⟩ true
     (.loop ⟨[((.sl 5 (.int .u8)), (.ow .sh), (5, 0))], [((11, 0), (.val (.int .i64))), ((1, 0), (.val (.int .i64))), ((0, 0), (.val (.int .u64))), ((5, 0), (.own 0)), ((10, 0), (.val (.int .i64)))]⟩
       (.seq .leaf
       (.seq (.cond none
         .leaf
         .leaf)
       (.seq (.block ⟨[((.sl 5 (.int .u8)), (.ow .sh), (5, 0))], [((1, 0), (.val (.int .i64))), ((0, 0), (.val (.int .u64))), ((5, 0), (.own 0)), ((10, 0), (.val (.int .i64))), ((11, 0), (.val (.int .i64)))]⟩ true
         (.seq .leaf
         .leaf))
       .leaf))))))
   (.seq .leaf
   .leaf))))
def d71_K1  : ((((List Int) × Unit) × Unit) → (Option (((List Int) × Unit) × Unit))) :=
  (fun (x3 : (((List Int) × Unit) × Unit)) => (Option.some ((x3.1.1, ()), ())))
def d71_K2 (x4 : ((((List Int) × Unit) × (Int × (Int × (Int × (Int × Unit))))) → (Option (((List Int) × Unit) × Unit)))) : ((((List Int) × Unit) × (Int × (Int × (Int × (Int × Unit))))) → (Option (((List Int) × Unit) × Unit))) :=
  (fun (x7 : (((List Int) × Unit) × (Int × (Int × (Int × (Int × Unit)))))) => (x4 ((x7.1.1, ()), ((Go.IntKind.wrap Go.IntKind.i64 (x7.2.2.2.2.1 + (1 : Int))), (x7.2.1, (x7.2.2.1, (x7.2.2.2.1, ())))))))
def d71_L3 (x3 : ((((List Int) × Unit) × Unit) → (Option (((List Int) × Unit) × Unit)))) : (((((List Int) × Unit) × (Int × (Int × (Int × (Int × Unit))))) → (Option (((List Int) × Unit) × Unit))) → ((((List Int) × Unit) × (Int × (Int × (Int × (Int × Unit))))) → (Option (((List Int) × Unit) × Unit)))) :=
  (fun (x4 : ((((List Int) × Unit) × (Int × (Int × (Int × (Int × Unit))))) → (Option (((List Int) × Unit) × Unit)))) => (fun (x5 : (((List Int) × Unit) × (Int × (Int × (Int × (Int × Unit)))))) => (lt (Decidable.decide (x5.2.1 < x5.2.2.2.2.1)) fun (x6 : Bool) =>
  (if (x6 = Bool.true) then
  (shr (d71_K2 x4) (fun (x7 : ((((List Int) × Unit) × (Int × (Int × (Int × (Int × Unit))))) → (Option (((List Int) × Unit) × Unit)))) => (lt (Go.IntKind.wrap Go.IntKind.i64 (x5.2.2.1 - (1 : Int))) fun (x8 : Int) =>
  (lt (Go.IntKind.wrap Go.IntKind.i64 (x8 - x5.2.1)) fun (x9 : Int) =>
  (lt (Go.IntKind.wrap Go.IntKind.i64 ((8 : Int) * x9)) fun (x10 : Int) =>
  (if ((Bool.not (Decidable.decide (x10 < (0 : Int)))) = Bool.true) then
  (lt (Int.fdiv x5.2.2.2.1 (HPow.hPow (2 : Int) (Min.min (Int.toNat x10) (Go.IntKind.bits Go.IntKind.u64)))) fun (x11 : Int) =>
  (lt (Go.IntKind.wrap Go.IntKind.u8 x11) fun (x12 : Int) =>
  (if (((Decidable.decide ((0 : Int) ≤ x5.2.1)) && (Decidable.decide (x5.2.1 < (((List.length x5.1.1) : Nat) : Int)))) = Bool.true) then
  (if (((Decidable.decide ((Int.toNat x5.2.1) < (List.length x5.1.1))) && Bool.true) = Bool.true) then
  (x7 (((List.set x5.1.1 (Int.toNat x5.2.1) x12), ()), (x5.2.2.1, (x5.2.2.2.1, (x5.2.2.2.2.1, (x5.2.1, ()))))))
  else (Option.none))
  else (Option.none))))
  else (Option.none)))))))
  else (x3 ((x5.1.1, ()), ()))))))
def d71 : (Nat → ((Int × (Int × Unit)) → (Option (((List Int) × Unit) × Unit)))) :=
  (fun (x0 : Nat) => (fun (x1 : (Int × (Int × Unit))) => (if (((((Decidable.decide ((0 : Int) ≤ x1.2.1)) && (Decidable.decide (x1.2.1 ≤ x1.2.1))) && (Decidable.decide (((((1 : Nat) : Nat) : Int) * x1.2.1) ≤ (281474976710656 : Int)))) && (Decidable.decide (x1.2.1 ≤ (9223372036854775807 : Int)))) = Bool.true) then
  (lt (List.replicate (Int.toNat x1.2.1) (0 : Int)) fun (x2 : (List Int)) =>
  (shr d71_K1 (fun (x3 : ((((List Int) × Unit) × Unit) → (Option (((List Int) × Unit) × Unit)))) => (loopN (d71_L3 x3) x0 ((x2, ()), ((0 : Int), (x1.2.1, (x1.1, ((((List.length x2) : Nat) : Int), ())))))))))
  else (Option.none))))
theorem k71 : c_fn Tryd.prog [] Tryd.f71 s71 h71 = some d71 := by kernel_rfl
/-- bulkhead/codec.Sum -/
def s74 : Sig := ⟨[((.sl 5 (.int .u8)), .val)], [((.int .u32), .val)]⟩
 def h74 : Hint := (.seq .leaf
   (.seq .leaf
   (.seq (.seq .leaf
   (.block ⟨[], [((3, 0), (.val (.int .u32)))]⟩ true
     (.loop ⟨[], [((8, 0), (.val (.int .i64))), ((3, 0), (.val (.int .u32))), ((6, 0), (.val (.sl 5 (.int .u8)))), ((7, 0), (.val (.int .i64)))]⟩
       (.seq .leaf
       (.seq (.cond none
         .leaf
         .leaf)
       (.seq (.block ⟨[], [((3, 0), (.val (.int .u32))), ((6, 0), (.val (.sl 5 (.int .u8)))), ((7, 0), (.val (.int .i64))), ((8, 0), (.val (.int .i64)))]⟩ true
         (.seq .leaf
         (.seq .leaf
         (.seq .leaf
         (.block ⟨[], [((3, 0), (.val (.int .u32))), ((6, 0), (.val (.sl 5 (.int .u8)))), ((7, 0), (.val (.int .i64))), ((8, 0), (.val (.int .i64)))]⟩ true
           (.loop ⟨[], [((16, 0), (.val (.int .i64))), ((3, 0), (.val (.int .u32))), ((6, 0), (.val (.sl 5 (.int .u8)))), ((7, 0), (.val (.int .i64))), ((8, 0), (.val (.int .i64)))]⟩
             (.seq .leaf
             (.seq (.cond none
               .leaf
               .leaf)
             (.seq (.block ⟨[], [((3, 0), (.val (.int .u32))), ((6, 0), (.val (.sl 5 (.int .u8)))), ((7, 0), (.val (.int .i64))), ((8, 0), (.val (.int .i64))), ((16, 0), (.val (.int .i64)))]⟩ true
               .leaf)
             .leaf)))))))))
       .leaf))))))
   (.seq .leaf
   .leaf))))
def d74_K1  : ((Unit × (Int × Unit)) → (Option ((Int × Unit) × Unit))) :=
  (fun (x2 : (Unit × (Int × Unit))) => (Option.some (((Go.IntKind.wrap Go.IntKind.u32 (((BitVec.toNat ((BitVec.ofInt (Go.IntKind.bits Go.IntKind.u32) (Go.IntKind.max Go.IntKind.u32)) ^^^ (BitVec.ofInt (Go.IntKind.bits Go.IntKind.u32) x2.2.1))) : Nat) : Int)), ()), ())))
def d74_K2 (x3 : ((Unit × (Int × (Int × ((List Int) × (Int × Unit))))) → (Option ((Int × Unit) × Unit)))) : ((Unit × (Int × ((List Int) × (Int × (Int × Unit))))) → (Option ((Int × Unit) × Unit))) :=
  (fun (x6 : (Unit × (Int × ((List Int) × (Int × (Int × Unit)))))) => (x3 ((), ((Go.IntKind.wrap Go.IntKind.i64 (x6.2.2.2.2.1 + (1 : Int))), (x6.2.1, (x6.2.2.1, (x6.2.2.2.1, ())))))))
def d74_K3 (x6 : ((Unit × (Int × ((List Int) × (Int × (Int × Unit))))) → (Option ((Int × Unit) × Unit)))) : ((Unit × (Int × ((List Int) × (Int × (Int × Unit))))) → (Option ((Int × Unit) × Unit))) :=
  (fun (x7 : (Unit × (Int × ((List Int) × (Int × (Int × Unit)))))) => (x6 ((), (x7.2.1, (x7.2.2.1, (x7.2.2.2.1, (x7.2.2.2.2.1, ())))))))
def d74_K4 (x8 : ((Unit × (Int × (Int × ((List Int) × (Int × (Int × Unit)))))) → (Option ((Int × Unit) × Unit)))) : ((Unit × (Int × ((List Int) × (Int × (Int × (Int × Unit)))))) → (Option ((Int × Unit) × Unit))) :=
  (fun (x11 : (Unit × (Int × ((List Int) × (Int × (Int × (Int × Unit))))))) => (x8 ((), ((Go.IntKind.wrap Go.IntKind.i64 (x11.2.2.2.2.2.1 + (1 : Int))), (x11.2.1, (x11.2.2.1, (x11.2.2.2.1, (x11.2.2.2.2.1, ()))))))))
def d74_L5 (x7 : ((Unit × (Int × ((List Int) × (Int × (Int × Unit))))) → (Option ((Int × Unit) × Unit)))) : (((Unit × (Int × (Int × ((List Int) × (Int × (Int × Unit)))))) → (Option ((Int × Unit) × Unit))) → ((Unit × (Int × (Int × ((List Int) × (Int × (Int × Unit)))))) → (Option ((Int × Unit) × Unit)))) :=
  (fun (x8 : ((Unit × (Int × (Int × ((List Int) × (Int × (Int × Unit)))))) → (Option ((Int × Unit) × Unit)))) => (fun (x9 : (Unit × (Int × (Int × ((List Int) × (Int × (Int × Unit))))))) => (lt (Decidable.decide (x9.2.1 < (8 : Int))) fun (x10 : Bool) =>
  (if (x10 = Bool.true) then
  (shr (d74_K4 x8) (fun (x11 : ((Unit × (Int × ((List Int) × (Int × (Int × (Int × Unit)))))) → (Option ((Int × Unit) × Unit)))) => (if ((Bool.not (Decidable.decide ((1 : Int) < (0 : Int)))) = Bool.true) then
  (x11 ((), ((Go.IntKind.wrap Go.IntKind.u32 (((BitVec.toNat ((BitVec.ofInt (Go.IntKind.bits Go.IntKind.u32) (Int.fdiv x9.2.2.1 (HPow.hPow (2 : Int) (Min.min (Int.toNat (1 : Int)) (Go.IntKind.bits Go.IntKind.u32))))) ^^^ (BitVec.ofInt (Go.IntKind.bits Go.IntKind.u32) (Go.IntKind.wrap Go.IntKind.u32 ((3988292384 : Int) * (Go.IntKind.wrap Go.IntKind.u32 (((BitVec.toNat ((BitVec.ofInt (Go.IntKind.bits Go.IntKind.u32) x9.2.2.1) &&& (BitVec.ofInt (Go.IntKind.bits Go.IntKind.u32) (1 : Int)))) : Nat) : Int))))))) : Nat) : Int)), (x9.2.2.2.1, (x9.2.2.2.2.1, (x9.2.2.2.2.2.1, (x9.2.1, ())))))))
  else (Option.none))))
  else (x7 ((), (x9.2.2.1, (x9.2.2.2.1, (x9.2.2.2.2.1, (x9.2.2.2.2.2.1, ()))))))))))
def d74_L6 (x0 : Nat) (x2 : ((Unit × (Int × Unit)) → (Option ((Int × Unit) × Unit)))) : (((Unit × (Int × (Int × ((List Int) × (Int × Unit))))) → (Option ((Int × Unit) × Unit))) → ((Unit × (Int × (Int × ((List Int) × (Int × Unit))))) → (Option ((Int × Unit) × Unit)))) :=
  (fun (x3 : ((Unit × (Int × (Int × ((List Int) × (Int × Unit))))) → (Option ((Int × Unit) × Unit)))) => (fun (x4 : (Unit × (Int × (Int × ((List Int) × (Int × Unit)))))) => (lt (Decidable.decide (x4.2.1 < x4.2.2.2.2.1)) fun (x5 : Bool) =>
  (if (x5 = Bool.true) then
  (shr (d74_K2 x3) (fun (x6 : ((Unit × (Int × ((List Int) × (Int × (Int × Unit))))) → (Option ((Int × Unit) × Unit)))) => (if (((Decidable.decide ((0 : Int) ≤ x4.2.1)) && (Decidable.decide (x4.2.1 < (((List.length x4.2.2.2.1) : Nat) : Int)))) = Bool.true) then
  (shr (d74_K3 x6) (fun (x7 : ((Unit × (Int × ((List Int) × (Int × (Int × Unit))))) → (Option ((Int × Unit) × Unit)))) => (loopN (d74_L5 x7) x0 ((), ((0 : Int), ((Go.IntKind.wrap Go.IntKind.u32 (((BitVec.toNat ((BitVec.ofInt (Go.IntKind.bits Go.IntKind.u32) x4.2.2.1) ^^^ (BitVec.ofInt (Go.IntKind.bits Go.IntKind.u32) (Go.IntKind.wrap Go.IntKind.u32 (List.getD x4.2.2.2.1 (Int.toNat x4.2.1) (0 : Int)))))) : Nat) : Int)), (x4.2.2.2.1, (x4.2.2.2.2.1, (x4.2.1, ())))))))))
  else (Option.none))))
  else (x2 ((), (x4.2.2.1, ())))))))
def d74 : (Nat → (((List Int) × Unit) → (Option ((Int × Unit) × Unit)))) :=
  (fun (x0 : Nat) => (fun (x1 : ((List Int) × Unit)) => (shr d74_K1 (fun (x2 : ((Unit × (Int × Unit)) → (Option ((Int × Unit) × Unit)))) => (loopN (d74_L6 x0 x2) x0 ((), ((0 : Int), ((4294967295 : Int), (x1.1, ((((List.length x1.1) : Nat) : Int), ()))))))))))
theorem k74 : c_fn Tryd.prog [] Tryd.f74 s74 h74 = some d74 := by kernel_rfl
/-- bulkhead/codec.Seal -/
def s50 : Sig := ⟨[((.int .u8), .val), ((.sl 5 (.int .u8)), .val)], [((.sl 5 (.int .u8)), (.own (.ow .sh))), ((.int .i64), .val)]⟩
 def h50 : Hint := (.seq .leaf
   (.seq (.seq .leaf
   (.cond none
     (.seq .leaf
     .leaf)
     .leaf))
   (.seq .leaf
   (.seq .leaf
   (.seq .leaf
   (.seq .leaf
   .leaf))))))
def d50 : (Nat → ((Int × ((List Int) × Unit)) → (Option (((List Int) × (Int × Unit)) × Unit)))) :=
  (fun (x0 : Nat) => (fun (x1 : (Int × ((List Int) × Unit))) => (lt (((List.length x1.2.1) : Nat) : Int) fun (x2 : Int) =>
  (lt (Decidable.decide (x2 > (4194304 : Int))) fun (x3 : Bool) =>
  (if (x3 = Bool.true) then
  (Option.some ((([] : List Int), ((1 : Int), ())), ()))
  else (lt ((66 : Int) :: ((75 : Int) :: (x1.1 :: ((1 : Int) :: ([] : List Int))))) fun (x4 : (List Int)) =>
  (lt (((List.length x1.2.1) : Nat) : Int) fun (x5 : Int) =>
  (lt (Go.IntKind.wrap Go.IntKind.u64 x5) fun (x6 : Int) =>
  (Option.bind (d71 x0 (x6, ((4 : Int), ()))) fun (x7 : (((List Int) × Unit) × Unit)) =>
  (if ((Go.Lift.appFits (List.length x4) (List.length x7.1.1) (1 : Nat)) = Bool.true) then
  (lt (x4 ++ x7.1.1) fun (x8 : (List Int)) =>
  (if ((Go.Lift.appFits (List.length x8) (List.length x1.2.1) (1 : Nat)) = Bool.true) then
  (lt (x8 ++ x1.2.1) fun (x9 : (List Int)) =>
  (Option.bind (d74 x0 (x9, ())) fun (x10 : ((Int × Unit) × Unit)) =>
  (lt (Go.IntKind.wrap Go.IntKind.u8 x10.1.1) fun (x11 : Int) =>
  (if ((Bool.not (Decidable.decide ((8 : Int) < (0 : Int)))) = Bool.true) then
  (lt (Int.fdiv x10.1.1 (HPow.hPow (2 : Int) (Min.min (Int.toNat (8 : Int)) (Go.IntKind.bits Go.IntKind.u32)))) fun (x12 : Int) =>
  (lt (Go.IntKind.wrap Go.IntKind.u8 x12) fun (x13 : Int) =>
  (if ((Bool.not (Decidable.decide ((16 : Int) < (0 : Int)))) = Bool.true) then
  (lt (Int.fdiv x10.1.1 (HPow.hPow (2 : Int) (Min.min (Int.toNat (16 : Int)) (Go.IntKind.bits Go.IntKind.u32)))) fun (x14 : Int) =>
  (lt (Go.IntKind.wrap Go.IntKind.u8 x14) fun (x15 : Int) =>
  (if ((Bool.not (Decidable.decide ((24 : Int) < (0 : Int)))) = Bool.true) then
  (lt (Int.fdiv x10.1.1 (HPow.hPow (2 : Int) (Min.min (Int.toNat (24 : Int)) (Go.IntKind.bits Go.IntKind.u32)))) fun (x16 : Int) =>
  (lt (Go.IntKind.wrap Go.IntKind.u8 x16) fun (x17 : Int) =>
  (lt (x11 :: (x13 :: (x15 :: (x17 :: ([] : List Int))))) fun (x18 : (List Int)) =>
  (if ((Go.Lift.appFits (List.length x9) (List.length x18) (1 : Nat)) = Bool.true) then
  (Option.some (((x9 ++ x18), ((0 : Int), ())), ()))
  else (Option.none)))))
  else (Option.none))))
  else (Option.none))))
  else (Option.none)))))
  else (Option.none)))
  else (Option.none)))))))))))
theorem k50 : c_fn Tryd.prog [(71, ⟨s71, d71⟩), (74, ⟨s74, d74⟩)] Tryd.f50 s50 h50 = some d50 := by kernel_rfl
/-- bytes.Equal -/
def s63 : Sig := ⟨[((.sl 5 (.int .u8)), .val), ((.sl 5 (.int .u8)), .val)], [(.bool, .val)]⟩
 def h63 : Hint := (.seq .leaf
   (.seq .leaf
   .leaf))
def d63 : (Nat → (((List Int) × ((List Int) × Unit)) → (Option ((Bool × Unit) × Unit)))) :=
  (fun (x0 : Nat) => (fun (x1 : ((List Int) × ((List Int) × Unit))) => (Option.some ((((ByteArray.toList (Go.Lift.bstr x1.1)) == (ByteArray.toList (Go.Lift.bstr x1.2.1))), ()), ()))))
theorem k63 : c_fn Tryd.prog [] Tryd.f63 s63 h63 = some d63 := by kernel_rfl
/-- bytes.Clone -/
def s64 : Sig := ⟨[((.sl 5 (.int .u8)), .val)], [((.sl 5 (.int .u8)), (.own (.ow .sh)))]⟩
def d64 (_ : Nat) (x : List Int × Unit) : Option ((List Int × Unit) × Unit) := if x.1.length ≤ 140737488355328 then some ((x.1, ()), ()) else none
/-- bulkhead/codec.Unseal -/
def s40 : Sig := ⟨[((.int .u8), .val), ((.sl 5 (.int .u8)), .val)], [((.sl 5 (.int .u8)), (.own (.ow .sh))), ((.int .i64), .val)]⟩
 def h40 : Hint := (.seq .leaf
   (.seq (.block ⟨[], [((1, 0), (.val (.sl 5 (.int .u8)))), ((0, 0), (.val (.int .u8)))]⟩ true
     (.seq .leaf
     (.cond none
       (.seq .leaf
       .leaf)
       (.seq .leaf
       (.cond none
         (.seq .leaf
         .leaf)
         .leaf)))))
   (.seq .leaf
   (.seq .leaf
   (.seq (.seq .leaf
   (.cond none
     (.seq .leaf
     .leaf)
     .leaf))
   (.seq .leaf
   .leaf))))))
def d40_K1 (x0 : Nat) : ((Unit × ((List Int) × (Int × Unit))) → (Option (((List Int) × (Int × Unit)) × Unit))) :=
  (fun (x2 : (Unit × ((List Int) × (Int × Unit)))) => (lt (((List.length x2.2.1) : Nat) : Int) fun (x3 : Int) =>
  (lt (Go.IntKind.wrap Go.IntKind.i64 (x3 - (4 : Int))) fun (x4 : Int) =>
  (if (((((Decidable.decide ((0 : Int) ≤ (8 : Int))) && (Decidable.decide ((0 : Int) ≤ x4))) && (Decidable.decide ((Int.toNat (8 : Int)) ≤ (Int.toNat x4)))) && (Decidable.decide ((Int.toNat x4) ≤ (List.length x2.2.1)))) = Bool.true) then
  (lt (List.drop (Int.toNat (8 : Int)) (List.take (Int.toNat x4) x2.2.1)) fun (x5 : (List Int)) =>
  (Option.bind (d50 x0 (x2.2.2.1, (x5, ()))) fun (x6 : (((List Int) × (Int × Unit)) × Unit)) =>
  (Option.bind (d63 x0 (x6.1.1, (x2.2.1, ()))) fun (x7 : ((Bool × Unit) × Unit)) =>
  (lt (Bool.not x7.1.1) fun (x8 : Bool) =>
  (if (x8 = Bool.true) then
  (Option.some ((([] : List Int), ((20 : Int), ())), ()))
  else (Option.bind (d64 x0 (x5, ())) fun (x9 : (((List Int) × Unit) × Unit)) =>
  (Option.some ((x9.1.1, ((0 : Int), ())), ()))))))))
  else (Option.none)))))
def d40 : (Nat → ((Int × ((List Int) × Unit)) → (Option (((List Int) × (Int × Unit)) × Unit)))) :=
  (fun (x0 : Nat) => (fun (x1 : (Int × ((List Int) × Unit))) => (shr (d40_K1 x0) (fun (x2 : ((Unit × ((List Int) × (Int × Unit))) → (Option (((List Int) × (Int × Unit)) × Unit)))) => (lt (((List.length x1.2.1) : Nat) : Int) fun (x3 : Int) =>
  (lt (Decidable.decide (x3 > (4194316 : Int))) fun (x4 : Bool) =>
  (if (x4 = Bool.true) then
  (Option.some ((([] : List Int), ((1 : Int), ())), ()))
  else (lt (((List.length x1.2.1) : Nat) : Int) fun (x5 : Int) =>
  (lt (Decidable.decide (x5 < (12 : Int))) fun (x6 : Bool) =>
  (if (x6 = Bool.true) then
  (Option.some ((([] : List Int), ((20 : Int), ())), ()))
  else (x2 ((), (x1.2.1, (x1.1, ()))))))))))))))
theorem k40 : c_fn Tryd.prog [(50, ⟨s50, d50⟩), (63, ⟨s63, d63⟩), (64, ⟨s64, d64⟩)] Tryd.f40 s40 h40 = some d40 := by kernel_rfl
/-- bulkhead/codec.NewReader -/
def s41 : Sig := ⟨[((.sl 5 (.int .u8)), .val)], [((.ptr 99 (.pair (.sl 5 (.int .u8)) (.pair (.int .i64) .unit))), (.own (.ow (.pr (.ow .sh) .sh))))]⟩
 def h41 : Hint := (.seq .leaf
   (.seq .leaf
   .leaf))
def d41 : (Nat → (((List Int) × Unit) → (Option ((((List Int) × (Int × Unit)) × Unit) × Unit)))) :=
  (fun (x0 : Nat) => (fun (x1 : ((List Int) × Unit)) => (Option.bind (d64 x0 (x1.1, ())) fun (x2 : (((List Int) × Unit) × Unit)) =>
  (Option.some (((x2.1.1, ((0 : Int), ())), ()), ())))))
theorem k41 : c_fn Tryd.prog [(64, ⟨s64, d64⟩)] Tryd.f41 s41 h41 = some d41 := by kernel_rfl
/-- (*bulkhead/codec.Reader).take -/
def s87 : Sig := ⟨[((.ptr 99 (.pair (.sl 5 (.int .u8)) (.pair (.int .i64) .unit))), (.mut (.ow .sh))), ((.int .i64), .val)], [((.sl 5 (.int .u8)), .val)]⟩
 def h87 : Hint := (.seq .leaf
   (.seq (.seq .leaf
   (.cond (some ⟨[((.ptr 99 (.pair (.sl 5 (.int .u8)) (.pair (.int .i64) .unit))), (.ow (.pr .sh (.pr .sh .sh))), (0, 0))], [((0, 0), (.own 0)), ((1, 0), (.val (.int .i64)))]⟩)
     .leaf
     .leaf))
   (.seq (.seq .leaf
   (.cond none
     (.seq .leaf
     .leaf)
     .leaf))
   (.seq .leaf
   (.seq .leaf
   (.seq .leaf
   .leaf))))))
def d87_K1  : (((((List Int) × (Int × Unit)) × Unit) × (Int × Unit)) → (Option (((List Int) × Unit) × (((List Int) × (Int × Unit)) × Unit)))) :=
  (fun (x8 : ((((List Int) × (Int × Unit)) × Unit) × (Int × Unit))) => (lt (x8.1.1.2.1 != (0 : Int)) fun (x9 : Bool) =>
  (if (x9 = Bool.true) then
  (Option.some ((([] : List Int), ()), (x8.1.1, ())))
  else (if ((((Decidable.decide ((0 : Int) ≤ x8.2.1)) && (Decidable.decide (x8.2.1 ≤ x8.2.1))) && (Decidable.decide (x8.2.1 ≤ (((List.length x8.1.1.1) : Nat) : Int)))) = Bool.true) then
  (lt (List.take (Int.toNat x8.2.1) x8.1.1.1) fun (x10 : (List Int)) =>
  (if (((((Decidable.decide ((0 : Int) ≤ x8.2.1)) && Bool.true) && (Decidable.decide ((Int.toNat x8.2.1) ≤ (List.length x8.1.1.1)))) && (Decidable.decide ((List.length x8.1.1.1) ≤ (List.length x8.1.1.1)))) = Bool.true) then
  (Option.some ((x10, ()), (((List.drop (Int.toNat x8.2.1) (List.take (List.length x8.1.1.1) x8.1.1.1)), x8.1.1.2), ())))
  else (Option.none)))
  else (Option.none)))))
def d87 : (Nat → ((((List Int) × (Int × Unit)) × (Int × Unit)) → (Option (((List Int) × Unit) × (((List Int) × (Int × Unit)) × Unit))))) :=
  (fun (x0 : Nat) => (fun (x1 : (((List Int) × (Int × Unit)) × (Int × Unit))) => (lt (x1.1.2.1 == (0 : Int)) fun (x2 : Bool) =>
  (lt (Decidable.decide (x1.2.1 < (0 : Int))) fun (x3 : Bool) =>
  (lt (((List.length x1.1.1) : Nat) : Int) fun (x4 : Int) =>
  (lt (Decidable.decide (x1.2.1 > x4)) fun (x5 : Bool) =>
  (lt (if (x3 = Bool.true) then
  Bool.true
  else x5) fun (x6 : Bool) =>
  (lt (if (x2 = Bool.true) then
  x6
  else Bool.false) fun (x7 : Bool) =>
  (shr d87_K1 (fun (x8 : (((((List Int) × (Int × Unit)) × Unit) × (Int × Unit)) → (Option (((List Int) × Unit) × (((List Int) × (Int × Unit)) × Unit))))) => (if (x7 = Bool.true) then
  (x8 (((x1.1.1, ((20 : Int), x1.1.2.2)), ()), (x1.2.1, ())))
  else (x8 ((x1.1, ()), (x1.2.1, ()))))))))))))))
theorem k87 : c_fn Tryd.prog [] Tryd.f87 s87 h87 = some d87 := by kernel_rfl
/-- (*bulkhead/codec.Reader).number -/
def s65 : Sig := ⟨[((.ptr 99 (.pair (.sl 5 (.int .u8)) (.pair (.int .i64) .unit))), (.mut (.ow .sh))), ((.int .i64), .val)], [((.int .u64), .val)]⟩
 def h65 : Hint := (.seq .leaf
   (.seq .leaf
   (.seq (.seq .leaf
   (.block ⟨[((.ptr 99 (.pair (.sl 5 (.int .u8)) (.pair (.int .i64) .unit))), (.ow .sh), (0, 0))], [((0, 0), (.own 0)), ((5, 0), (.val (.int .u64)))]⟩ true
     (.loop ⟨[((.ptr 99 (.pair (.sl 5 (.int .u8)) (.pair (.int .i64) .unit))), (.ow .sh), (0, 0))], [((12, 0), (.val (.int .i64))), ((5, 0), (.val (.int .u64))), ((10, 0), (.val (.sl 5 (.int .u8)))), ((0, 0), (.own 0)), ((11, 0), (.val (.int .i64)))]⟩
       (.seq .leaf
       (.seq (.cond none
         .leaf
         .leaf)
       (.seq (.block ⟨[((.ptr 99 (.pair (.sl 5 (.int .u8)) (.pair (.int .i64) .unit))), (.ow .sh), (0, 0))], [((5, 0), (.val (.int .u64))), ((10, 0), (.val (.sl 5 (.int .u8)))), ((0, 0), (.own 0)), ((11, 0), (.val (.int .i64))), ((12, 0), (.val (.int .i64)))]⟩ true
         (.seq .leaf
         .leaf))
       .leaf))))))
   (.seq .leaf
   .leaf))))
def d65_K1  : (((((List Int) × (Int × Unit)) × Unit) × (Int × Unit)) → (Option ((Int × Unit) × (((List Int) × (Int × Unit)) × Unit)))) :=
  (fun (x3 : ((((List Int) × (Int × Unit)) × Unit) × (Int × Unit))) => (Option.some ((x3.2.1, ()), (x3.1.1, ()))))
def d65_K2 (x4 : (((((List Int) × (Int × Unit)) × Unit) × (Int × (Int × ((List Int) × (Int × Unit))))) → (Option ((Int × Unit) × (((List Int) × (Int × Unit)) × Unit))))) : (((((List Int) × (Int × Unit)) × Unit) × (Int × ((List Int) × (Int × (Int × Unit))))) → (Option ((Int × Unit) × (((List Int) × (Int × Unit)) × Unit)))) :=
  (fun (x7 : ((((List Int) × (Int × Unit)) × Unit) × (Int × ((List Int) × (Int × (Int × Unit)))))) => (x4 ((x7.1.1, ()), ((Go.IntKind.wrap Go.IntKind.i64 (x7.2.2.2.2.1 + (1 : Int))), (x7.2.1, (x7.2.2.1, (x7.2.2.2.1, ())))))))
def d65_L3 (x3 : (((((List Int) × (Int × Unit)) × Unit) × (Int × Unit)) → (Option ((Int × Unit) × (((List Int) × (Int × Unit)) × Unit))))) : ((((((List Int) × (Int × Unit)) × Unit) × (Int × (Int × ((List Int) × (Int × Unit))))) → (Option ((Int × Unit) × (((List Int) × (Int × Unit)) × Unit)))) → (((((List Int) × (Int × Unit)) × Unit) × (Int × (Int × ((List Int) × (Int × Unit))))) → (Option ((Int × Unit) × (((List Int) × (Int × Unit)) × Unit))))) :=
  (fun (x4 : (((((List Int) × (Int × Unit)) × Unit) × (Int × (Int × ((List Int) × (Int × Unit))))) → (Option ((Int × Unit) × (((List Int) × (Int × Unit)) × Unit))))) => (fun (x5 : ((((List Int) × (Int × Unit)) × Unit) × (Int × (Int × ((List Int) × (Int × Unit)))))) => (lt (Decidable.decide (x5.2.1 < x5.2.2.2.2.1)) fun (x6 : Bool) =>
  (if (x6 = Bool.true) then
  (shr (d65_K2 x4) (fun (x7 : (((((List Int) × (Int × Unit)) × Unit) × (Int × ((List Int) × (Int × (Int × Unit))))) → (Option ((Int × Unit) × (((List Int) × (Int × Unit)) × Unit))))) => (if (((Decidable.decide ((0 : Int) ≤ x5.2.1)) && (Decidable.decide (x5.2.1 < (((List.length x5.2.2.2.1) : Nat) : Int)))) = Bool.true) then
  (lt (List.getD x5.2.2.2.1 (Int.toNat x5.2.1) (0 : Int)) fun (x8 : Int) =>
  (if ((Bool.not (Decidable.decide ((8 : Int) < (0 : Int)))) = Bool.true) then
  (x7 ((x5.1.1, ()), ((Go.IntKind.wrap Go.IntKind.u64 (((BitVec.toNat ((BitVec.ofInt (Go.IntKind.bits Go.IntKind.u64) (Go.IntKind.wrap Go.IntKind.u64 (x5.2.2.1 * (HPow.hPow (2 : Int) (Min.min (Int.toNat (8 : Int)) (Go.IntKind.bits Go.IntKind.u64)))))) ||| (BitVec.ofInt (Go.IntKind.bits Go.IntKind.u64) (Go.IntKind.wrap Go.IntKind.u64 x8)))) : Nat) : Int)), (x5.2.2.2.1, (x5.2.2.2.2.1, (x5.2.1, ()))))))
  else (Option.none)))
  else (Option.none))))
  else (x3 ((x5.1.1, ()), (x5.2.2.1, ())))))))
def d65 : (Nat → ((((List Int) × (Int × Unit)) × (Int × Unit)) → (Option ((Int × Unit) × (((List Int) × (Int × Unit)) × Unit))))) :=
  (fun (x0 : Nat) => (fun (x1 : (((List Int) × (Int × Unit)) × (Int × Unit))) => (Option.bind (d87 x0 (x1.1, (x1.2.1, ()))) fun (x2 : (((List Int) × Unit) × (((List Int) × (Int × Unit)) × Unit))) =>
  (shr d65_K1 (fun (x3 : (((((List Int) × (Int × Unit)) × Unit) × (Int × Unit)) → (Option ((Int × Unit) × (((List Int) × (Int × Unit)) × Unit))))) => (loopN (d65_L3 x3) x0 ((x2.2.1, ()), ((0 : Int), ((0 : Int), (x2.1.1, ((((List.length x2.1.1) : Nat) : Int), ())))))))))))
theorem k65 : c_fn Tryd.prog [(87, ⟨s87, d87⟩)] Tryd.f65 s65 h65 = some d65 := by kernel_rfl
/-- (*bulkhead/codec.Reader).U32 -/
def s42 : Sig := ⟨[((.ptr 99 (.pair (.sl 5 (.int .u8)) (.pair (.int .i64) .unit))), (.mut (.ow .sh)))], [((.int .i64), .val)]⟩
 def h42 : Hint := (.seq .leaf
   (.seq .leaf
   .leaf))
def d42 : (Nat → ((((List Int) × (Int × Unit)) × Unit) → (Option ((Int × Unit) × (((List Int) × (Int × Unit)) × Unit))))) :=
  (fun (x0 : Nat) => (fun (x1 : (((List Int) × (Int × Unit)) × Unit)) => (Option.bind (d65 x0 (x1.1, ((4 : Int), ()))) fun (x2 : ((Int × Unit) × (((List Int) × (Int × Unit)) × Unit))) =>
  (Option.some (((Go.IntKind.wrap Go.IntKind.i64 x2.1.1), ()), (x2.2.1, ()))))))
theorem k42 : c_fn Tryd.prog [(65, ⟨s65, d65⟩)] Tryd.f42 s42 h42 = some d42 := by kernel_rfl
/-- slices.Clip[[]bulkhead/api.Input,bulkhead/api.Input] -/
def s66 : Sig := ⟨[((.sl 24 (.pair (.int .i64) (.pair (.int .i64) (.pair (.int .i64) (.pair (.sl 2 (.int .i64)) .unit))))), .val)], [((.sl 24 (.pair (.int .i64) (.pair (.int .i64) (.pair (.int .i64) (.pair (.sl 2 (.int .i64)) .unit))))), .val)]⟩
 def h66 : Hint := (.seq .leaf
   (.seq .leaf
   .leaf))
def d66 : (Nat → (((List IN) × Unit) → (Option (((List IN) × Unit) × Unit)))) :=
  (fun (x0 : Nat) => (fun (x1 : ((List IN) × Unit)) => (lt (((List.length x1.1) : Nat) : Int) fun (x2 : Int) =>
  (lt (((List.length x1.1) : Nat) : Int) fun (x3 : Int) =>
  (if ((((Decidable.decide ((0 : Int) ≤ x2)) && (Decidable.decide (x2 ≤ x3))) && (Decidable.decide (x3 ≤ (((List.length x1.1) : Nat) : Int)))) = Bool.true) then
  (Option.some (((List.take (Int.toNat x2) x1.1), ()), ()))
  else (Option.none))))))
theorem k66 : c_fn Tryd.prog [] Tryd.f66 s66 h66 = some d66 := by kernel_rfl
/-- (*bulkhead/codec.Reader).I64 -/
def s67 : Sig := ⟨[((.ptr 99 (.pair (.sl 5 (.int .u8)) (.pair (.int .i64) .unit))), (.mut (.ow .sh)))], [((.int .i64), .val)]⟩
 def h67 : Hint := (.seq .leaf
   (.seq .leaf
   .leaf))
def d67 : (Nat → ((((List Int) × (Int × Unit)) × Unit) → (Option ((Int × Unit) × (((List Int) × (Int × Unit)) × Unit))))) :=
  (fun (x0 : Nat) => (fun (x1 : (((List Int) × (Int × Unit)) × Unit)) => (Option.bind (d65 x0 (x1.1, ((8 : Int), ()))) fun (x2 : ((Int × Unit) × (((List Int) × (Int × Unit)) × Unit))) =>
  (Option.some (((Go.IntKind.wrap Go.IntKind.i64 x2.1.1), ()), (x2.2.1, ()))))))
theorem k67 : c_fn Tryd.prog [(65, ⟨s65, d65⟩)] Tryd.f67 s67 h67 = some d67 := by kernel_rfl
/-- slices.Clip[[]int64,int64] -/
def s88 : Sig := ⟨[((.sl 2 (.int .i64)), .val)], [((.sl 2 (.int .i64)), .val)]⟩
 def h88 : Hint := (.seq .leaf
   (.seq .leaf
   .leaf))
def d88 : (Nat → (((List Int) × Unit) → (Option (((List Int) × Unit) × Unit)))) :=
  (fun (x0 : Nat) => (fun (x1 : ((List Int) × Unit)) => (lt (((List.length x1.1) : Nat) : Int) fun (x2 : Int) =>
  (lt (((List.length x1.1) : Nat) : Int) fun (x3 : Int) =>
  (if ((((Decidable.decide ((0 : Int) ≤ x2)) && (Decidable.decide (x2 ≤ x3))) && (Decidable.decide (x3 ≤ (((List.length x1.1) : Nat) : Int)))) = Bool.true) then
  (Option.some (((List.take (Int.toNat x2) x1.1), ()), ()))
  else (Option.none))))))
theorem k88 : c_fn Tryd.prog [] Tryd.f88 s88 h88 = some d88 := by kernel_rfl
/-- bulkhead/codec.GetList[int64] -/
def s68 : Sig := ⟨[((.ptr 99 (.pair (.sl 5 (.int .u8)) (.pair (.int .i64) .unit))), (.mut (.ow .sh))), ((.int .i64), .val), ((.fn 67 .unit), .val)], [((.sl 2 (.int .i64)), .val)]⟩
 def h68 : Hint := (.seq .leaf
   (.seq (.seq .leaf
   (.cond none
     (.seq .leaf
     .leaf)
     .leaf))
   (.seq .leaf
   (.seq .leaf
   (.seq (.block ⟨[((.ptr 99 (.pair (.sl 5 (.int .u8)) (.pair (.int .i64) .unit))), (.ow .sh), (0, 0)), ((.ptr 99 (.pair (.sl 5 (.int .u8)) (.pair (.int .i64) .unit))), (.ow .sh), (7, 0))], [((0, 0), (.own 0)), ((2, 0), (.val (.fn 67 .unit))), ((8, 0), (.val (.int .i64))), ((7, 0), (.own 1))]⟩ true
     (.seq .leaf
     (.cond none
       (.seq .leaf
       (.seq .leaf
       .leaf))
       (.seq .leaf
       (.cond none
         (.seq .leaf
         (.seq .leaf
         .leaf))
         (.seq .leaf
         (.cond none
           (.seq .leaf
           (.seq .leaf
           .leaf))
           .leaf)))))))
   (.seq .leaf
   (.seq .leaf
   (.seq (.seq .leaf
   (.block ⟨[((.ptr 99 (.pair (.sl 5 (.int .u8)) (.pair (.int .i64) .unit))), (.ow .sh), (0, 0)), ((.sl 2 (.int .i64)), (.ow .sh), (9, 0))], [((0, 0), (.own 0)), ((9, 0), (.own 1))]⟩ true
     (.loop ⟨[((.ptr 99 (.pair (.sl 5 (.int .u8)) (.pair (.int .i64) .unit))), (.ow .sh), (0, 0)), ((.sl 2 (.int .i64)), (.ow .sh), (9, 0))], [((0, 0), (.own 0)), ((48, 0), (.val (.int .i64))), ((2, 0), (.val (.fn 67 .unit))), ((9, 0), (.own 1)), ((47, 0), (.val (.int .i64)))]⟩
       (.seq .leaf
       (.seq (.cond none
         .leaf
         .leaf)
       (.seq (.block ⟨[((.ptr 99 (.pair (.sl 5 (.int .u8)) (.pair (.int .i64) .unit))), (.ow .sh), (0, 0)), ((.sl 2 (.int .i64)), (.ow .sh), (9, 0))], [((0, 0), (.own 0)), ((2, 0), (.val (.fn 67 .unit))), ((9, 0), (.own 1)), ((47, 0), (.val (.int .i64))), ((48, 0), (.val (.int .i64)))]⟩ true
         (.seq .leaf
         (.seq .leaf
         (.cond none
           (.seq .leaf
           .leaf)
           .leaf))))
       .leaf))))))
   (.seq (.pre ⟨[((.ptr 99 (.pair (.sl 5 (.int .u8)) (.pair (.int .i64) .unit))), (.ow .sh), (0, 0))], [((0, 0), (.own 0)), ((9, 0), (.val (.sl 2 (.int .i64))))]⟩ .leaf)
   .leaf)))))))))
def d68_K1 (x0 : Nat) : (((((List Int) × (Int × Unit)) × ((List Int) × Unit)) × Unit) → (Option (((List Int) × Unit) × (((List Int) × (Int × Unit)) × Unit)))) :=
  (fun (x5 : ((((List Int) × (Int × Unit)) × ((List Int) × Unit)) × Unit)) => (Option.bind (d88 x0 (x5.1.2.1, ())) fun (x6 : (((List Int) × Unit) × Unit)) =>
  (Option.some ((x6.1.1, ()), (x5.1.1, ())))))
def d68_K2 (x6 : (((((List Int) × (Int × Unit)) × ((List Int) × Unit)) × (Int × (Unit × (Int × Unit)))) → (Option (((List Int) × Unit) × (((List Int) × (Int × Unit)) × Unit))))) : (((((List Int) × (Int × Unit)) × ((List Int) × Unit)) × (Unit × (Int × (Int × Unit)))) → (Option (((List Int) × Unit) × (((List Int) × (Int × Unit)) × Unit)))) :=
  (fun (x9 : ((((List Int) × (Int × Unit)) × ((List Int) × Unit)) × (Unit × (Int × (Int × Unit))))) => (x6 ((x9.1.1, (x9.1.2.1, ())), ((Go.IntKind.wrap Go.IntKind.i64 (x9.2.2.2.1 + (1 : Int))), (x9.2.1, (x9.2.2.1, ()))))))
def d68_L3 (x0 : Nat) (x5 : (((((List Int) × (Int × Unit)) × ((List Int) × Unit)) × Unit) → (Option (((List Int) × Unit) × (((List Int) × (Int × Unit)) × Unit))))) : ((((((List Int) × (Int × Unit)) × ((List Int) × Unit)) × (Int × (Unit × (Int × Unit)))) → (Option (((List Int) × Unit) × (((List Int) × (Int × Unit)) × Unit)))) → (((((List Int) × (Int × Unit)) × ((List Int) × Unit)) × (Int × (Unit × (Int × Unit)))) → (Option (((List Int) × Unit) × (((List Int) × (Int × Unit)) × Unit))))) :=
  (fun (x6 : (((((List Int) × (Int × Unit)) × ((List Int) × Unit)) × (Int × (Unit × (Int × Unit)))) → (Option (((List Int) × Unit) × (((List Int) × (Int × Unit)) × Unit))))) => (fun (x7 : ((((List Int) × (Int × Unit)) × ((List Int) × Unit)) × (Int × (Unit × (Int × Unit))))) => (lt (Decidable.decide (x7.2.1 < x7.2.2.2.1)) fun (x8 : Bool) =>
  (if (x8 = Bool.true) then
  (shr (d68_K2 x6) (fun (x9 : (((((List Int) × (Int × Unit)) × ((List Int) × Unit)) × (Unit × (Int × (Int × Unit)))) → (Option (((List Int) × Unit) × (((List Int) × (Int × Unit)) × Unit))))) => (Option.bind (d67 x0 (x7.1.1, ())) fun (x10 : ((Int × Unit) × (((List Int) × (Int × Unit)) × Unit))) =>
  (lt (x10.1.1 :: ([] : List Int)) fun (x11 : (List Int)) =>
  (if ((Go.Lift.appFits (List.length x7.1.2.1) (List.length x11) (8 : Nat)) = Bool.true) then
  (lt (x7.1.2.1 ++ x11) fun (x12 : (List Int)) =>
  (lt (x10.2.1.2.1 != (0 : Int)) fun (x13 : Bool) =>
  (if (x13 = Bool.true) then
  (Option.some ((([] : List Int), ()), (x10.2.1, ())))
  else (x9 ((x10.2.1, (x12, ())), (x7.2.2.1, (x7.2.2.2.1, (x7.2.1, ()))))))))
  else (Option.none))))))
  else (x5 ((x7.1.1, (x7.1.2.1, ())), ()))))))
def d68_K4 (x0 : Nat) : (((((List Int) × (Int × Unit)) × (((List Int) × (Int × Unit)) × Unit)) × (Unit × (Int × Unit))) → (Option (((List Int) × Unit) × (((List Int) × (Int × Unit)) × Unit)))) :=
  (fun (x4 : ((((List Int) × (Int × Unit)) × (((List Int) × (Int × Unit)) × Unit)) × (Unit × (Int × Unit)))) => (shr (d68_K1 x0) (fun (x5 : (((((List Int) × (Int × Unit)) × ((List Int) × Unit)) × Unit) → (Option (((List Int) × Unit) × (((List Int) × (Int × Unit)) × Unit))))) => (loopN (d68_L3 x0 x5) x0 ((x4.1.2.1, (([] : List Int), ())), ((0 : Int), (x4.2.1, (x4.2.2.1, ()))))))))
def d68 : (Nat → ((((List Int) × (Int × Unit)) × (Int × (Unit × Unit))) → (Option (((List Int) × Unit) × (((List Int) × (Int × Unit)) × Unit))))) :=
  (fun (x0 : Nat) => (fun (x1 : (((List Int) × (Int × Unit)) × (Int × (Unit × Unit)))) => (lt (x1.1.2.1 != (0 : Int)) fun (x2 : Bool) =>
  (if (x2 = Bool.true) then
  (Option.some ((([] : List Int), ()), (x1.1, ())))
  else (Option.bind (d42 x0 (x1.1, ())) fun (x3 : ((Int × Unit) × (((List Int) × (Int × Unit)) × Unit))) =>
  (shr (d68_K4 x0) (fun (x4 : (((((List Int) × (Int × Unit)) × (((List Int) × (Int × Unit)) × Unit)) × (Unit × (Int × Unit))) → (Option (((List Int) × Unit) × (((List Int) × (Int × Unit)) × Unit))))) => (lt (x3.2.1.2.1 != (0 : Int)) fun (x5 : Bool) =>
  (if (x5 = Bool.true) then
  (Option.some ((([] : List Int), ()), ((x1.1.1, (x3.2.1.2.1, x1.1.2.2)), ())))
  else (lt (Decidable.decide (x3.1.1 > x1.2.1)) fun (x6 : Bool) =>
  (if (x6 = Bool.true) then
  (Option.some ((([] : List Int), ()), ((x1.1.1, ((1 : Int), x1.1.2.2)), ())))
  else (lt (((List.length x3.2.1.1) : Nat) : Int) fun (x7 : Int) =>
  (lt (Decidable.decide (x3.1.1 > x7)) fun (x8 : Bool) =>
  (if (x8 = Bool.true) then
  (Option.some ((([] : List Int), ()), ((x1.1.1, ((20 : Int), x1.1.2.2)), ())))
  else (x4 ((x1.1, (x3.2.1, ())), (x1.2.2.1, (x3.1.1, ()))))))))))))))))))
theorem k68 : c_fn Tryd.prog [(42, ⟨s42, d42⟩), (88, ⟨s88, d88⟩), (67, ⟨s67, d67⟩)] Tryd.f68 s68 h68 = some d68 := by kernel_rfl
/-- bulkhead/script.get -/
def s44 : Sig := ⟨[((.ptr 99 (.pair (.sl 5 (.int .u8)) (.pair (.int .i64) .unit))), (.mut (.ow .sh)))], [((.pair (.int .i64) (.pair (.int .i64) (.pair (.int .i64) (.pair (.sl 2 (.int .i64)) .unit)))), .val)]⟩
 def h44 : Hint := (.seq .leaf
   (.seq .leaf
   .leaf))
def d44 : (Nat → ((((List Int) × (Int × Unit)) × Unit) → (Option ((IN × Unit) × (((List Int) × (Int × Unit)) × Unit))))) :=
  (fun (x0 : Nat) => (fun (x1 : (((List Int) × (Int × Unit)) × Unit)) => (Option.bind (d67 x0 (x1.1, ())) fun (x2 : ((Int × Unit) × (((List Int) × (Int × Unit)) × Unit))) =>
  (Option.bind (d67 x0 (x2.2.1, ())) fun (x3 : ((Int × Unit) × (((List Int) × (Int × Unit)) × Unit))) =>
  (Option.bind (d67 x0 (x3.2.1, ())) fun (x4 : ((Int × Unit) × (((List Int) × (Int × Unit)) × Unit))) =>
  (Option.bind (d68 x0 (x4.2.1, ((4194316 : Int), ((), ())))) fun (x5 : (((List Int) × Unit) × (((List Int) × (Int × Unit)) × Unit))) =>
  (Option.some (((x2.1.1, (x3.1.1, (x4.1.1, (x5.1.1, ())))), ()), (x5.2.1, ())))))))))
theorem k44 : c_fn Tryd.prog [(67, ⟨s67, d67⟩), (68, ⟨s68, d68⟩)] Tryd.f44 s44 h44 = some d44 := by kernel_rfl
/-- bulkhead/codec.GetList[bulkhead/api.Input] -/
def s43 : Sig := ⟨[((.ptr 99 (.pair (.sl 5 (.int .u8)) (.pair (.int .i64) .unit))), (.mut (.ow .sh))), ((.int .i64), .val), ((.fn 44 .unit), .val)], [((.sl 24 (.pair (.int .i64) (.pair (.int .i64) (.pair (.int .i64) (.pair (.sl 2 (.int .i64)) .unit))))), .val)]⟩
 def h43 : Hint := (.seq .leaf
   (.seq (.seq .leaf
   (.cond none
     (.seq .leaf
     .leaf)
     .leaf))
   (.seq .leaf
   (.seq .leaf
   (.seq (.block ⟨[((.ptr 99 (.pair (.sl 5 (.int .u8)) (.pair (.int .i64) .unit))), (.ow .sh), (0, 0)), ((.ptr 99 (.pair (.sl 5 (.int .u8)) (.pair (.int .i64) .unit))), (.ow .sh), (7, 0))], [((0, 0), (.own 0)), ((2, 0), (.val (.fn 44 .unit))), ((8, 0), (.val (.int .i64))), ((7, 0), (.own 1))]⟩ true
     (.seq .leaf
     (.cond none
       (.seq .leaf
       (.seq .leaf
       .leaf))
       (.seq .leaf
       (.cond none
         (.seq .leaf
         (.seq .leaf
         .leaf))
         (.seq .leaf
         (.cond none
           (.seq .leaf
           (.seq .leaf
           .leaf))
           .leaf)))))))
   (.seq .leaf
   (.seq .leaf
   (.seq (.seq .leaf
   (.block ⟨[((.ptr 99 (.pair (.sl 5 (.int .u8)) (.pair (.int .i64) .unit))), (.ow .sh), (0, 0)), ((.sl 24 (.pair (.int .i64) (.pair (.int .i64) (.pair (.int .i64) (.pair (.sl 2 (.int .i64)) .unit))))), (.ow .sh), (9, 0))], [((0, 0), (.own 0)), ((9, 0), (.own 1))]⟩ true
     (.loop ⟨[((.ptr 99 (.pair (.sl 5 (.int .u8)) (.pair (.int .i64) .unit))), (.ow .sh), (0, 0)), ((.sl 24 (.pair (.int .i64) (.pair (.int .i64) (.pair (.int .i64) (.pair (.sl 2 (.int .i64)) .unit))))), (.ow .sh), (9, 0))], [((0, 0), (.own 0)), ((48, 0), (.val (.int .i64))), ((2, 0), (.val (.fn 44 .unit))), ((9, 0), (.own 1)), ((47, 0), (.val (.int .i64)))]⟩
       (.seq .leaf
       (.seq (.cond none
         .leaf
         .leaf)
       (.seq (.block ⟨[((.ptr 99 (.pair (.sl 5 (.int .u8)) (.pair (.int .i64) .unit))), (.ow .sh), (0, 0)), ((.sl 24 (.pair (.int .i64) (.pair (.int .i64) (.pair (.int .i64) (.pair (.sl 2 (.int .i64)) .unit))))), (.ow .sh), (9, 0))], [((0, 0), (.own 0)), ((2, 0), (.val (.fn 44 .unit))), ((9, 0), (.own 1)), ((47, 0), (.val (.int .i64))), ((48, 0), (.val (.int .i64)))]⟩ true
         (.seq .leaf
         (.seq .leaf
         (.cond none
           (.seq .leaf
           .leaf)
           .leaf))))
       .leaf))))))
   (.seq (.pre ⟨[((.ptr 99 (.pair (.sl 5 (.int .u8)) (.pair (.int .i64) .unit))), (.ow .sh), (0, 0))], [((0, 0), (.own 0)), ((9, 0), (.val (.sl 24 (.pair (.int .i64) (.pair (.int .i64) (.pair (.int .i64) (.pair (.sl 2 (.int .i64)) .unit)))))))]⟩ .leaf)
   .leaf)))))))))
def d43_K1 (x0 : Nat) : (((((List Int) × (Int × Unit)) × ((List IN) × Unit)) × Unit) → (Option (((List IN) × Unit) × (((List Int) × (Int × Unit)) × Unit)))) :=
  (fun (x5 : ((((List Int) × (Int × Unit)) × ((List IN) × Unit)) × Unit)) => (Option.bind (d66 x0 (x5.1.2.1, ())) fun (x6 : (((List IN) × Unit) × Unit)) =>
  (Option.some ((x6.1.1, ()), (x5.1.1, ())))))
def d43_K2 (x6 : (((((List Int) × (Int × Unit)) × ((List IN) × Unit)) × (Int × (Unit × (Int × Unit)))) → (Option (((List IN) × Unit) × (((List Int) × (Int × Unit)) × Unit))))) : (((((List Int) × (Int × Unit)) × ((List IN) × Unit)) × (Unit × (Int × (Int × Unit)))) → (Option (((List IN) × Unit) × (((List Int) × (Int × Unit)) × Unit)))) :=
  (fun (x9 : ((((List Int) × (Int × Unit)) × ((List IN) × Unit)) × (Unit × (Int × (Int × Unit))))) => (x6 ((x9.1.1, (x9.1.2.1, ())), ((Go.IntKind.wrap Go.IntKind.i64 (x9.2.2.2.1 + (1 : Int))), (x9.2.1, (x9.2.2.1, ()))))))
def d43_L3 (x0 : Nat) (x5 : (((((List Int) × (Int × Unit)) × ((List IN) × Unit)) × Unit) → (Option (((List IN) × Unit) × (((List Int) × (Int × Unit)) × Unit))))) : ((((((List Int) × (Int × Unit)) × ((List IN) × Unit)) × (Int × (Unit × (Int × Unit)))) → (Option (((List IN) × Unit) × (((List Int) × (Int × Unit)) × Unit)))) → (((((List Int) × (Int × Unit)) × ((List IN) × Unit)) × (Int × (Unit × (Int × Unit)))) → (Option (((List IN) × Unit) × (((List Int) × (Int × Unit)) × Unit))))) :=
  (fun (x6 : (((((List Int) × (Int × Unit)) × ((List IN) × Unit)) × (Int × (Unit × (Int × Unit)))) → (Option (((List IN) × Unit) × (((List Int) × (Int × Unit)) × Unit))))) => (fun (x7 : ((((List Int) × (Int × Unit)) × ((List IN) × Unit)) × (Int × (Unit × (Int × Unit))))) => (lt (Decidable.decide (x7.2.1 < x7.2.2.2.1)) fun (x8 : Bool) =>
  (if (x8 = Bool.true) then
  (shr (d43_K2 x6) (fun (x9 : (((((List Int) × (Int × Unit)) × ((List IN) × Unit)) × (Unit × (Int × (Int × Unit)))) → (Option (((List IN) × Unit) × (((List Int) × (Int × Unit)) × Unit))))) => (Option.bind (d44 x0 (x7.1.1, ())) fun (x10 : ((IN × Unit) × (((List Int) × (Int × Unit)) × Unit))) =>
  (lt (x10.1.1 :: ([] : List IN)) fun (x11 : (List IN)) =>
  (if ((Go.Lift.appFits (List.length x7.1.2.1) (List.length x11) (48 : Nat)) = Bool.true) then
  (lt (x7.1.2.1 ++ x11) fun (x12 : (List IN)) =>
  (lt (x10.2.1.2.1 != (0 : Int)) fun (x13 : Bool) =>
  (if (x13 = Bool.true) then
  (Option.some ((([] : List IN), ()), (x10.2.1, ())))
  else (x9 ((x10.2.1, (x12, ())), (x7.2.2.1, (x7.2.2.2.1, (x7.2.1, ()))))))))
  else (Option.none))))))
  else (x5 ((x7.1.1, (x7.1.2.1, ())), ()))))))
def d43_K4 (x0 : Nat) : (((((List Int) × (Int × Unit)) × (((List Int) × (Int × Unit)) × Unit)) × (Unit × (Int × Unit))) → (Option (((List IN) × Unit) × (((List Int) × (Int × Unit)) × Unit)))) :=
  (fun (x4 : ((((List Int) × (Int × Unit)) × (((List Int) × (Int × Unit)) × Unit)) × (Unit × (Int × Unit)))) => (shr (d43_K1 x0) (fun (x5 : (((((List Int) × (Int × Unit)) × ((List IN) × Unit)) × Unit) → (Option (((List IN) × Unit) × (((List Int) × (Int × Unit)) × Unit))))) => (loopN (d43_L3 x0 x5) x0 ((x4.1.2.1, (([] : List IN), ())), ((0 : Int), (x4.2.1, (x4.2.2.1, ()))))))))
def d43 : (Nat → ((((List Int) × (Int × Unit)) × (Int × (Unit × Unit))) → (Option (((List IN) × Unit) × (((List Int) × (Int × Unit)) × Unit))))) :=
  (fun (x0 : Nat) => (fun (x1 : (((List Int) × (Int × Unit)) × (Int × (Unit × Unit)))) => (lt (x1.1.2.1 != (0 : Int)) fun (x2 : Bool) =>
  (if (x2 = Bool.true) then
  (Option.some ((([] : List IN), ()), (x1.1, ())))
  else (Option.bind (d42 x0 (x1.1, ())) fun (x3 : ((Int × Unit) × (((List Int) × (Int × Unit)) × Unit))) =>
  (shr (d43_K4 x0) (fun (x4 : (((((List Int) × (Int × Unit)) × (((List Int) × (Int × Unit)) × Unit)) × (Unit × (Int × Unit))) → (Option (((List IN) × Unit) × (((List Int) × (Int × Unit)) × Unit))))) => (lt (x3.2.1.2.1 != (0 : Int)) fun (x5 : Bool) =>
  (if (x5 = Bool.true) then
  (Option.some ((([] : List IN), ()), ((x1.1.1, (x3.2.1.2.1, x1.1.2.2)), ())))
  else (lt (Decidable.decide (x3.1.1 > x1.2.1)) fun (x6 : Bool) =>
  (if (x6 = Bool.true) then
  (Option.some ((([] : List IN), ()), ((x1.1.1, ((1 : Int), x1.1.2.2)), ())))
  else (lt (((List.length x3.2.1.1) : Nat) : Int) fun (x7 : Int) =>
  (lt (Decidable.decide (x3.1.1 > x7)) fun (x8 : Bool) =>
  (if (x8 = Bool.true) then
  (Option.some ((([] : List IN), ()), ((x1.1.1, ((20 : Int), x1.1.2.2)), ())))
  else (x4 ((x1.1, (x3.2.1, ())), (x1.2.2.1, (x3.1.1, ()))))))))))))))))))
theorem k43 : c_fn Tryd.prog [(42, ⟨s42, d42⟩), (66, ⟨s66, d66⟩), (44, ⟨s44, d44⟩)] Tryd.f43 s43 h43 = some d43 := by kernel_rfl
/-- (*bulkhead/codec.Reader).Done -/
def s45 : Sig := ⟨[((.ptr 99 (.pair (.sl 5 (.int .u8)) (.pair (.int .i64) .unit))), .val)], [((.int .i64), .val)]⟩
 def h45 : Hint := (.seq .leaf
   (.seq (.seq .leaf
   (.cond none
     (.seq .leaf
     .leaf)
     .leaf))
   (.seq .leaf
   .leaf)))
def d45 : (Nat → ((((List Int) × (Int × Unit)) × Unit) → (Option ((Int × Unit) × Unit)))) :=
  (fun (x0 : Nat) => (fun (x1 : (((List Int) × (Int × Unit)) × Unit)) => (lt (x1.1.2.1 == (0 : Int)) fun (x2 : Bool) =>
  (lt (((List.length x1.1.1) : Nat) : Int) fun (x3 : Int) =>
  (lt (Decidable.decide (x3 > (0 : Int))) fun (x4 : Bool) =>
  (lt (if (x2 = Bool.true) then
  x4
  else Bool.false) fun (x5 : Bool) =>
  (if (x5 = Bool.true) then
  (Option.some (((20 : Int), ()), ()))
  else (Option.some ((x1.1.2.1, ()), ())))))))))
theorem k45 : c_fn Tryd.prog [] Tryd.f45 s45 h45 = some d45 := by kernel_rfl
/-- bulkhead/script.Decode -/
def s26 : Sig := ⟨[((.sl 5 (.int .u8)), (.tak (.ow .sh)))], [((.sl 24 (.pair (.int .i64) (.pair (.int .i64) (.pair (.int .i64) (.pair (.sl 2 (.int .i64)) .unit))))), .val), ((.int .i64), .val)]⟩
 def h26 : Hint := (.seq .leaf
   (.seq .leaf
   (.seq (.seq .leaf
   (.cond none
     (.seq .leaf
     .leaf)
     .leaf))
   (.seq (.seq .leaf
   (.seq (.pre ⟨[((.sl 5 (.int .u8)), (.ow .sh), (4, 0)), ((.ptr 99 (.pair (.sl 5 (.int .u8)) (.pair (.int .i64) .unit))), (.ow .sh), (6, 0))], [((4, 0), (.own 0)), ((6, 0), (.own 1))]⟩ .leaf)
   (.cond none
     (.seq .leaf
     .leaf)
     .leaf)))
   (.seq .leaf
   (.seq (.pre ⟨[((.ptr 99 (.pair (.sl 5 (.int .u8)) (.pair (.int .i64) .unit))), (.ow .sh), (7, 0))], [((7, 0), (.own 0))]⟩ .leaf)
   (.seq (.seq .leaf
   (.cond none
     (.seq .leaf
     .leaf)
     .leaf))
   (.seq .leaf
   .leaf))))))))
def d26 : (Nat → (((List Int) × Unit) → (Option (((List IN) × (Int × Unit)) × Unit)))) :=
  (fun (x0 : Nat) => (fun (x1 : ((List Int) × Unit)) => (Option.bind (d40 x0 ((3 : Int), (x1.1, ()))) fun (x2 : (((List Int) × (Int × Unit)) × Unit)) =>
  (lt (x2.1.2.1 != (0 : Int)) fun (x3 : Bool) =>
  (if (x3 = Bool.true) then
  (Option.some ((([] : List IN), (x2.1.2.1, ())), ()))
  else (Option.bind (d41 x0 (x2.1.1, ())) fun (x4 : ((((List Int) × (Int × Unit)) × Unit) × Unit)) =>
  (Option.bind (d42 x0 (x4.1.1, ())) fun (x5 : ((Int × Unit) × (((List Int) × (Int × Unit)) × Unit))) =>
  (lt (Decidable.decide (x5.1.1 > (65536 : Int))) fun (x6 : Bool) =>
  (if (x6 = Bool.true) then
  (Option.some ((([] : List IN), ((1 : Int), ())), ()))
  else (Option.bind (d41 x0 (x2.1.1, ())) fun (x7 : ((((List Int) × (Int × Unit)) × Unit) × Unit)) =>
  (Option.bind (d43 x0 (x7.1.1, ((65536 : Int), ((), ())))) fun (x8 : (((List IN) × Unit) × (((List Int) × (Int × Unit)) × Unit))) =>
  (Option.bind (d45 x0 (x8.2.1, ())) fun (x9 : ((Int × Unit) × Unit)) =>
  (lt (x9.1.1 != (0 : Int)) fun (x10 : Bool) =>
  (if (x10 = Bool.true) then
  (Option.some ((([] : List IN), ((20 : Int), ())), ()))
  else (Option.some ((x8.1.1, ((0 : Int), ())), ()))))))))))))))))
theorem k26 : c_fn Tryd.prog [(40, ⟨s40, d40⟩), (41, ⟨s41, d41⟩), (42, ⟨s42, d42⟩), (43, ⟨s43, d43⟩), (44, ⟨s44, d44⟩), (45, ⟨s45, d45⟩)] Tryd.f26 s26 h26 = some d26 := by kernel_rfl
/-- bulkhead/codec.NewWriter -/
def s46 : Sig := ⟨[], [((.ptr 106 (.pair (.sl 5 (.int .u8)) (.pair (.int .i64) .unit))), (.own (.ow (.pr (.ow .sh) .sh))))]⟩
 def h46 : Hint := (.seq .leaf
   (.seq .leaf
   .leaf))
def d46 : (Nat → (Unit → (Option ((((List Int) × (Int × Unit)) × Unit) × Unit)))) :=
  (fun (x0 : Nat) => (fun (x1 : Unit) => (Option.some (((([] : List Int), ((0 : Int), ())), ()), ()))))
theorem k46 : c_fn Tryd.prog [] Tryd.f46 s46 h46 = some d46 := by kernel_rfl
/-- bulkhead/codec.PutList[bulkhead/api.Input]$1 -/
def s70 : Sig := ⟨[((.ptr 26 (.sl 24 (.pair (.int .i64) (.pair (.int .i64) (.pair (.int .i64) (.pair (.sl 2 (.int .i64)) .unit)))))), .val), ((.ptr 3 (.int .i64)), .val)], [((.sl 5 (.int .u8)), (.own (.ow .sh))), ((.int .i64), .val)]⟩
 def h70 : Hint := (.seq .leaf
   (.seq (.seq .leaf
   (.cond none
     (.seq .leaf
     .leaf)
     .leaf))
   (.seq .leaf
   .leaf)))
def d70 : (Nat → (((List IN) × (Int × Unit)) → (Option (((List Int) × (Int × Unit)) × Unit)))) :=
  (fun (x0 : Nat) => (fun (x1 : ((List IN) × (Int × Unit))) => (lt (((List.length x1.1) : Nat) : Int) fun (x2 : Int) =>
  (lt (Decidable.decide (x2 > x1.2.1)) fun (x3 : Bool) =>
  (if (x3 = Bool.true) then
  (Option.some ((([] : List Int), ((1 : Int), ())), ()))
  else (Option.bind (d71 x0 ((Go.IntKind.wrap Go.IntKind.u64 (((List.length x1.1) : Nat) : Int)), ((4 : Int), ()))) fun (x4 : (((List Int) × Unit) × Unit)) =>
  (Option.some ((x4.1.1, ((0 : Int), ())), ()))))))))
theorem k70 : c_fn Tryd.prog [(71, ⟨s71, d71⟩)] Tryd.f70 s70 h70 = some d70 := by kernel_rfl
/-- (*bulkhead/codec.Writer).I64$1 -/
def s89 : Sig := ⟨[((.ptr 2 (.int .i64)), .val)], [((.sl 5 (.int .u8)), (.own (.ow .sh))), ((.int .i64), .val)]⟩
 def h89 : Hint := (.seq .leaf
   (.seq .leaf
   .leaf))
def d89 : (Nat → ((Int × Unit) → (Option (((List Int) × (Int × Unit)) × Unit)))) :=
  (fun (x0 : Nat) => (fun (x1 : (Int × Unit)) => (Option.bind (d71 x0 ((Go.IntKind.wrap Go.IntKind.u64 x1.1), ((8 : Int), ()))) fun (x2 : (((List Int) × Unit) × Unit)) =>
  (Option.some ((x2.1.1, ((0 : Int), ())), ())))))
theorem k89 : c_fn Tryd.prog [(71, ⟨s71, d71⟩)] Tryd.f89 s89 h89 = some d89 := by kernel_rfl
/-- (*bulkhead/codec.Writer).do -/
def s69 : Sig := ⟨[((.ptr 106 (.pair (.sl 5 (.int .u8)) (.pair (.int .i64) .unit))), (.mut (.ow (.pr (.ow .sh) .sh)))), ((.fn 89 (.pair (.ptr 2 (.int .i64)) .unit)), .val)], []⟩
 def h69 : Hint := (.seq (.seq .leaf
   (.cond none
     .leaf
     .leaf))
   (.seq .leaf
   (.seq (.seq .leaf
   (.cond none
     (.seq .leaf
     .leaf)
     .leaf))
   .leaf)))
def d69 : (Nat → ((((List Int) × (Int × Unit)) × ((Int × Unit) × Unit)) → (Option (Unit × (((List Int) × (Int × Unit)) × Unit))))) :=
  (fun (x0 : Nat) => (fun (x1 : (((List Int) × (Int × Unit)) × ((Int × Unit) × Unit))) => (lt (x1.1.2.1 != (0 : Int)) fun (x2 : Bool) =>
  (if (x2 = Bool.true) then
  (Option.some ((), (x1.1, ())))
  else (Option.bind (d89 x0 (x1.2.1.1, ())) fun (x3 : (((List Int) × (Int × Unit)) × Unit)) =>
  (lt (x3.1.2.1 != (0 : Int)) fun (x4 : Bool) =>
  (if (x4 = Bool.true) then
  (Option.some ((), ((x1.1.1, (x3.1.2.1, x1.1.2.2)), ())))
  else (if ((Bool.true && (Go.Lift.appFits (List.length x1.1.1) (List.length x3.1.1) (1 : Nat))) = Bool.true) then
  (Option.some ((), (((x1.1.1 ++ x3.1.1), x1.1.2), ())))
  else (Option.none)))))))))
theorem k69 : c_fn Tryd.prog [(89, ⟨s89, d89⟩)] Tryd.f69 s69 h69 = some d69 := by kernel_rfl
/-- bulkhead/codec.PutList[int64]$1 -/
def s90 : Sig := ⟨[((.ptr 22 (.sl 2 (.int .i64))), .val), ((.ptr 3 (.int .i64)), .val)], [((.sl 5 (.int .u8)), (.own (.ow .sh))), ((.int .i64), .val)]⟩
 def h90 : Hint := (.seq .leaf
   (.seq (.seq .leaf
   (.cond none
     (.seq .leaf
     .leaf)
     .leaf))
   (.seq .leaf
   .leaf)))
def d90 : (Nat → (((List Int) × (Int × Unit)) → (Option (((List Int) × (Int × Unit)) × Unit)))) :=
  (fun (x0 : Nat) => (fun (x1 : ((List Int) × (Int × Unit))) => (lt (((List.length x1.1) : Nat) : Int) fun (x2 : Int) =>
  (lt (Decidable.decide (x2 > x1.2.1)) fun (x3 : Bool) =>
  (if (x3 = Bool.true) then
  (Option.some ((([] : List Int), ((1 : Int), ())), ()))
  else (Option.bind (d71 x0 ((Go.IntKind.wrap Go.IntKind.u64 (((List.length x1.1) : Nat) : Int)), ((4 : Int), ()))) fun (x4 : (((List Int) × Unit) × Unit)) =>
  (Option.some ((x4.1.1, ((0 : Int), ())), ()))))))))
theorem k90 : c_fn Tryd.prog [(71, ⟨s71, d71⟩)] Tryd.f90 s90 h90 = some d90 := by kernel_rfl
/-- (*bulkhead/codec.Writer).do -/
def s69x1 : Sig := ⟨[((.ptr 106 (.pair (.sl 5 (.int .u8)) (.pair (.int .i64) .unit))), (.mut (.ow (.pr (.ow .sh) .sh)))), ((.fn 90 (.pair (.ptr 22 (.sl 2 (.int .i64))) (.pair (.ptr 3 (.int .i64)) .unit))), .val)], []⟩
 def h69x1 : Hint := (.seq (.seq .leaf
   (.cond none
     .leaf
     .leaf))
   (.seq .leaf
   (.seq (.seq .leaf
   (.cond none
     (.seq .leaf
     .leaf)
     .leaf))
   .leaf)))
def d69x1 : (Nat → ((((List Int) × (Int × Unit)) × (((List Int) × (Int × Unit)) × Unit)) → (Option (Unit × (((List Int) × (Int × Unit)) × Unit))))) :=
  (fun (x0 : Nat) => (fun (x1 : (((List Int) × (Int × Unit)) × (((List Int) × (Int × Unit)) × Unit))) => (lt (x1.1.2.1 != (0 : Int)) fun (x2 : Bool) =>
  (if (x2 = Bool.true) then
  (Option.some ((), (x1.1, ())))
  else (Option.bind (d90 x0 (x1.2.1.1, (x1.2.1.2.1, ()))) fun (x3 : (((List Int) × (Int × Unit)) × Unit)) =>
  (lt (x3.1.2.1 != (0 : Int)) fun (x4 : Bool) =>
  (if (x4 = Bool.true) then
  (Option.some ((), ((x1.1.1, (x3.1.2.1, x1.1.2.2)), ())))
  else (if ((Bool.true && (Go.Lift.appFits (List.length x1.1.1) (List.length x3.1.1) (1 : Nat))) = Bool.true) then
  (Option.some ((), (((x1.1.1 ++ x3.1.1), x1.1.2), ())))
  else (Option.none)))))))))
theorem k69x1 : c_fn Tryd.prog [(90, ⟨s90, d90⟩)] Tryd.f69 s69x1 h69x1 = some d69x1 := by kernel_rfl
/-- (*bulkhead/codec.Writer).do -/
def s69x2 : Sig := ⟨[((.ptr 106 (.pair (.sl 5 (.int .u8)) (.pair (.int .i64) .unit))), (.mut (.ow (.pr (.ow .sh) .sh)))), ((.fn 70 (.pair (.ptr 26 (.sl 24 (.pair (.int .i64) (.pair (.int .i64) (.pair (.int .i64) (.pair (.sl 2 (.int .i64)) .unit)))))) (.pair (.ptr 3 (.int .i64)) .unit))), .val)], []⟩
 def h69x2 : Hint := (.seq (.seq .leaf
   (.cond none
     .leaf
     .leaf))
   (.seq .leaf
   (.seq (.seq .leaf
   (.cond none
     (.seq .leaf
     .leaf)
     .leaf))
   .leaf)))
def d69x2 : (Nat → ((((List Int) × (Int × Unit)) × (((List IN) × (Int × Unit)) × Unit)) → (Option (Unit × (((List Int) × (Int × Unit)) × Unit))))) :=
  (fun (x0 : Nat) => (fun (x1 : (((List Int) × (Int × Unit)) × (((List IN) × (Int × Unit)) × Unit))) => (lt (x1.1.2.1 != (0 : Int)) fun (x2 : Bool) =>
  (if (x2 = Bool.true) then
  (Option.some ((), (x1.1, ())))
  else (Option.bind (d70 x0 (x1.2.1.1, (x1.2.1.2.1, ()))) fun (x3 : (((List Int) × (Int × Unit)) × Unit)) =>
  (lt (x3.1.2.1 != (0 : Int)) fun (x4 : Bool) =>
  (if (x4 = Bool.true) then
  (Option.some ((), ((x1.1.1, (x3.1.2.1, x1.1.2.2)), ())))
  else (if ((Bool.true && (Go.Lift.appFits (List.length x1.1.1) (List.length x3.1.1) (1 : Nat))) = Bool.true) then
  (Option.some ((), (((x1.1.1 ++ x3.1.1), x1.1.2), ())))
  else (Option.none)))))))))
theorem k69x2 : c_fn Tryd.prog [(70, ⟨s70, d70⟩)] Tryd.f69 s69x2 h69x2 = some d69x2 := by kernel_rfl
/-- (*bulkhead/codec.Writer).I64 -/
def s72 : Sig := ⟨[((.ptr 106 (.pair (.sl 5 (.int .u8)) (.pair (.int .i64) .unit))), (.mut (.ow (.pr (.ow .sh) .sh)))), ((.int .i64), .val)], []⟩
 def h72 : Hint := (.seq .leaf
   (.pre ⟨[((.ptr 106 (.pair (.sl 5 (.int .u8)) (.pair (.int .i64) .unit))), (.ow (.pr (.ow .sh) .sh)), (0, 0))], [((0, 0), (.own 0)), ((3, 0), (.val (.ptr 2 (.int .i64))))]⟩ .leaf))
def d72 : (Nat → ((((List Int) × (Int × Unit)) × (Int × Unit)) → (Option (Unit × (((List Int) × (Int × Unit)) × Unit))))) :=
  (fun (x0 : Nat) => (fun (x1 : (((List Int) × (Int × Unit)) × (Int × Unit))) => (Option.bind (d69 x0 (x1.1, ((x1.2.1, ()), ()))) fun (x2 : (Unit × (((List Int) × (Int × Unit)) × Unit))) =>
  (Option.some ((), (x2.2.1, ()))))))
theorem k72 : c_fn Tryd.prog [(89, ⟨s89, d89⟩), (69, ⟨s69x2, d69x2⟩), (69, ⟨s69x1, d69x1⟩), (69, ⟨s69, d69⟩)] Tryd.f72 s72 h72 = some d72 := by kernel_rfl
/-- bulkhead/codec.PutList[int64] -/
def s73 : Sig := ⟨[((.ptr 106 (.pair (.sl 5 (.int .u8)) (.pair (.int .i64) .unit))), (.mut (.ow (.pr (.ow .sh) .sh)))), ((.sl 2 (.int .i64)), .val), ((.int .i64), .val), ((.fn 72 .unit), .val)], []⟩
 def h73 : Hint := (.seq .leaf
   (.seq (.pre ⟨[((.ptr 106 (.pair (.sl 5 (.int .u8)) (.pair (.int .i64) .unit))), (.ow (.pr (.ow .sh) .sh)), (0, 0))], [((0, 0), (.own 0)), ((3, 0), (.val (.fn 72 .unit))), ((5, 0), (.val (.ptr 22 (.sl 2 (.int .i64))))), ((6, 0), (.val (.ptr 3 (.int .i64))))]⟩ .leaf)
   (.seq .leaf
   (.block ⟨[((.ptr 106 (.pair (.sl 5 (.int .u8)) (.pair (.int .i64) .unit))), (.ow (.pr (.ow .sh) .sh)), (0, 0))], [((0, 0), (.own 0))]⟩ true
     (.loop ⟨[((.ptr 106 (.pair (.sl 5 (.int .u8)) (.pair (.int .i64) .unit))), (.ow (.pr (.ow .sh) .sh)), (0, 0))], [((0, 0), (.own 0)), ((15, 0), (.val (.int .i64))), ((3, 0), (.val (.fn 72 .unit))), ((13, 0), (.val (.sl 2 (.int .i64)))), ((14, 0), (.val (.int .i64)))]⟩
       (.seq .leaf
       (.seq (.cond none
         .leaf
         .leaf)
       (.seq (.block ⟨[((.ptr 106 (.pair (.sl 5 (.int .u8)) (.pair (.int .i64) .unit))), (.ow (.pr (.ow .sh) .sh)), (0, 0))], [((0, 0), (.own 0)), ((3, 0), (.val (.fn 72 .unit))), ((13, 0), (.val (.sl 2 (.int .i64)))), ((14, 0), (.val (.int .i64))), ((15, 0), (.val (.int .i64)))]⟩ true
         (.seq .leaf
         (.seq (.seq .leaf
         (.cond none
           .leaf
           .leaf))
         .leaf)))
       .leaf))))))))
def d73_K1  : (((((List Int) × (Int × Unit)) × Unit) × Unit) → (Option (Unit × (((List Int) × (Int × Unit)) × Unit)))) :=
  (fun (x3 : ((((List Int) × (Int × Unit)) × Unit) × Unit)) => (Option.some ((), (x3.1.1, ()))))
def d73_K2 (x4 : (((((List Int) × (Int × Unit)) × Unit) × (Int × (Unit × ((List Int) × (Int × Unit))))) → (Option (Unit × (((List Int) × (Int × Unit)) × Unit))))) : (((((List Int) × (Int × Unit)) × Unit) × (Unit × ((List Int) × (Int × (Int × Unit))))) → (Option (Unit × (((List Int) × (Int × Unit)) × Unit)))) :=
  (fun (x7 : ((((List Int) × (Int × Unit)) × Unit) × (Unit × ((List Int) × (Int × (Int × Unit)))))) => (x4 ((x7.1.1, ()), ((Go.IntKind.wrap Go.IntKind.i64 (x7.2.2.2.2.1 + (1 : Int))), (x7.2.1, (x7.2.2.1, (x7.2.2.2.1, ())))))))
def d73_L3 (x0 : Nat) (x3 : (((((List Int) × (Int × Unit)) × Unit) × Unit) → (Option (Unit × (((List Int) × (Int × Unit)) × Unit))))) : ((((((List Int) × (Int × Unit)) × Unit) × (Int × (Unit × ((List Int) × (Int × Unit))))) → (Option (Unit × (((List Int) × (Int × Unit)) × Unit)))) → (((((List Int) × (Int × Unit)) × Unit) × (Int × (Unit × ((List Int) × (Int × Unit))))) → (Option (Unit × (((List Int) × (Int × Unit)) × Unit))))) :=
  (fun (x4 : (((((List Int) × (Int × Unit)) × Unit) × (Int × (Unit × ((List Int) × (Int × Unit))))) → (Option (Unit × (((List Int) × (Int × Unit)) × Unit))))) => (fun (x5 : ((((List Int) × (Int × Unit)) × Unit) × (Int × (Unit × ((List Int) × (Int × Unit)))))) => (lt (Decidable.decide (x5.2.1 < x5.2.2.2.2.1)) fun (x6 : Bool) =>
  (if (x6 = Bool.true) then
  (shr (d73_K2 x4) (fun (x7 : (((((List Int) × (Int × Unit)) × Unit) × (Unit × ((List Int) × (Int × (Int × Unit))))) → (Option (Unit × (((List Int) × (Int × Unit)) × Unit))))) => (if (((Decidable.decide ((0 : Int) ≤ x5.2.1)) && (Decidable.decide (x5.2.1 < (((List.length x5.2.2.2.1) : Nat) : Int)))) = Bool.true) then
  (lt (List.getD x5.2.2.2.1 (Int.toNat x5.2.1) (0 : Int)) fun (x8 : Int) =>
  (lt (x5.1.1.2.1 != (0 : Int)) fun (x9 : Bool) =>
  (if (x9 = Bool.true) then
  (Option.some ((), (x5.1.1, ())))
  else (Option.bind (d72 x0 (x5.1.1, (x8, ()))) fun (x10 : (Unit × (((List Int) × (Int × Unit)) × Unit))) =>
  (x7 ((x10.2.1, ()), (x5.2.2.1, (x5.2.2.2.1, (x5.2.2.2.2.1, (x5.2.1, ()))))))))))
  else (Option.none))))
  else (x3 ((x5.1.1, ()), ()))))))
def d73 : (Nat → ((((List Int) × (Int × Unit)) × ((List Int) × (Int × (Unit × Unit)))) → (Option (Unit × (((List Int) × (Int × Unit)) × Unit))))) :=
  (fun (x0 : Nat) => (fun (x1 : (((List Int) × (Int × Unit)) × ((List Int) × (Int × (Unit × Unit))))) => (Option.bind (d69x1 x0 (x1.1, ((x1.2.1, (x1.2.2.1, ())), ()))) fun (x2 : (Unit × (((List Int) × (Int × Unit)) × Unit))) =>
  (shr d73_K1 (fun (x3 : (((((List Int) × (Int × Unit)) × Unit) × Unit) → (Option (Unit × (((List Int) × (Int × Unit)) × Unit))))) => (loopN (d73_L3 x0 x3) x0 ((x2.2.1, ()), ((0 : Int), (x1.2.2.2.1, (x1.2.1, ((((List.length x1.2.1) : Nat) : Int), ())))))))))))
theorem k73 : c_fn Tryd.prog [(90, ⟨s90, d90⟩), (69, ⟨s69x2, d69x2⟩), (69, ⟨s69x1, d69x1⟩), (69, ⟨s69, d69⟩), (72, ⟨s72, d72⟩)] Tryd.f73 s73 h73 = some d73 := by kernel_rfl
/-- bulkhead/script.put -/
def s48 : Sig := ⟨[((.ptr 106 (.pair (.sl 5 (.int .u8)) (.pair (.int .i64) .unit))), (.mut (.ow (.pr (.ow .sh) .sh)))), ((.pair (.int .i64) (.pair (.int .i64) (.pair (.int .i64) (.pair (.sl 2 (.int .i64)) .unit)))), .val)], []⟩
 def h48 : Hint := (.seq .leaf
   (.seq .leaf
   (.seq .leaf
   (.seq .leaf
   .leaf))))
def d48 : (Nat → ((((List Int) × (Int × Unit)) × (IN × Unit)) → (Option (Unit × (((List Int) × (Int × Unit)) × Unit))))) :=
  (fun (x0 : Nat) => (fun (x1 : (((List Int) × (Int × Unit)) × (IN × Unit))) => (Option.bind (d72 x0 (x1.1, (x1.2.1.1, ()))) fun (x2 : (Unit × (((List Int) × (Int × Unit)) × Unit))) =>
  (Option.bind (d72 x0 (x2.2.1, (x1.2.1.2.1, ()))) fun (x3 : (Unit × (((List Int) × (Int × Unit)) × Unit))) =>
  (Option.bind (d72 x0 (x3.2.1, (x1.2.1.2.2.1, ()))) fun (x4 : (Unit × (((List Int) × (Int × Unit)) × Unit))) =>
  (Option.bind (d73 x0 (x4.2.1, (x1.2.1.2.2.2.1, ((4194316 : Int), ((), ()))))) fun (x5 : (Unit × (((List Int) × (Int × Unit)) × Unit))) =>
  (Option.some ((), (x5.2.1, ())))))))))
theorem k48 : c_fn Tryd.prog [(72, ⟨s72, d72⟩), (73, ⟨s73, d73⟩)] Tryd.f48 s48 h48 = some d48 := by kernel_rfl
/-- bulkhead/codec.PutList[bulkhead/api.Input] -/
def s47 : Sig := ⟨[((.ptr 106 (.pair (.sl 5 (.int .u8)) (.pair (.int .i64) .unit))), (.mut (.ow (.pr (.ow .sh) .sh)))), ((.sl 24 (.pair (.int .i64) (.pair (.int .i64) (.pair (.int .i64) (.pair (.sl 2 (.int .i64)) .unit))))), .val), ((.int .i64), .val), ((.fn 48 .unit), .val)], []⟩
 def h47 : Hint := (.seq .leaf
   (.seq (.pre ⟨[((.ptr 106 (.pair (.sl 5 (.int .u8)) (.pair (.int .i64) .unit))), (.ow (.pr (.ow .sh) .sh)), (0, 0))], [((0, 0), (.own 0)), ((3, 0), (.val (.fn 48 .unit))), ((5, 0), (.val (.ptr 26 (.sl 24 (.pair (.int .i64) (.pair (.int .i64) (.pair (.int .i64) (.pair (.sl 2 (.int .i64)) .unit)))))))), ((6, 0), (.val (.ptr 3 (.int .i64))))]⟩ .leaf)
   (.seq .leaf
   (.block ⟨[((.ptr 106 (.pair (.sl 5 (.int .u8)) (.pair (.int .i64) .unit))), (.ow (.pr (.ow .sh) .sh)), (0, 0))], [((0, 0), (.own 0))]⟩ true
     (.loop ⟨[((.ptr 106 (.pair (.sl 5 (.int .u8)) (.pair (.int .i64) .unit))), (.ow (.pr (.ow .sh) .sh)), (0, 0))], [((0, 0), (.own 0)), ((15, 0), (.val (.int .i64))), ((3, 0), (.val (.fn 48 .unit))), ((13, 0), (.val (.sl 24 (.pair (.int .i64) (.pair (.int .i64) (.pair (.int .i64) (.pair (.sl 2 (.int .i64)) .unit))))))), ((14, 0), (.val (.int .i64)))]⟩
       (.seq .leaf
       (.seq (.cond none
         .leaf
         .leaf)
       (.seq (.block ⟨[((.ptr 106 (.pair (.sl 5 (.int .u8)) (.pair (.int .i64) .unit))), (.ow (.pr (.ow .sh) .sh)), (0, 0))], [((0, 0), (.own 0)), ((3, 0), (.val (.fn 48 .unit))), ((13, 0), (.val (.sl 24 (.pair (.int .i64) (.pair (.int .i64) (.pair (.int .i64) (.pair (.sl 2 (.int .i64)) .unit))))))), ((14, 0), (.val (.int .i64))), ((15, 0), (.val (.int .i64)))]⟩ true
         (.seq .leaf
         (.seq (.seq .leaf
         (.cond none
           .leaf
           .leaf))
         .leaf)))
       .leaf))))))))
def d47_K1  : (((((List Int) × (Int × Unit)) × Unit) × Unit) → (Option (Unit × (((List Int) × (Int × Unit)) × Unit)))) :=
  (fun (x3 : ((((List Int) × (Int × Unit)) × Unit) × Unit)) => (Option.some ((), (x3.1.1, ()))))
def d47_K2 (x4 : (((((List Int) × (Int × Unit)) × Unit) × (Int × (Unit × ((List IN) × (Int × Unit))))) → (Option (Unit × (((List Int) × (Int × Unit)) × Unit))))) : (((((List Int) × (Int × Unit)) × Unit) × (Unit × ((List IN) × (Int × (Int × Unit))))) → (Option (Unit × (((List Int) × (Int × Unit)) × Unit)))) :=
  (fun (x7 : ((((List Int) × (Int × Unit)) × Unit) × (Unit × ((List IN) × (Int × (Int × Unit)))))) => (x4 ((x7.1.1, ()), ((Go.IntKind.wrap Go.IntKind.i64 (x7.2.2.2.2.1 + (1 : Int))), (x7.2.1, (x7.2.2.1, (x7.2.2.2.1, ())))))))
def d47_L3 (x0 : Nat) (x3 : (((((List Int) × (Int × Unit)) × Unit) × Unit) → (Option (Unit × (((List Int) × (Int × Unit)) × Unit))))) : ((((((List Int) × (Int × Unit)) × Unit) × (Int × (Unit × ((List IN) × (Int × Unit))))) → (Option (Unit × (((List Int) × (Int × Unit)) × Unit)))) → (((((List Int) × (Int × Unit)) × Unit) × (Int × (Unit × ((List IN) × (Int × Unit))))) → (Option (Unit × (((List Int) × (Int × Unit)) × Unit))))) :=
  (fun (x4 : (((((List Int) × (Int × Unit)) × Unit) × (Int × (Unit × ((List IN) × (Int × Unit))))) → (Option (Unit × (((List Int) × (Int × Unit)) × Unit))))) => (fun (x5 : ((((List Int) × (Int × Unit)) × Unit) × (Int × (Unit × ((List IN) × (Int × Unit)))))) => (lt (Decidable.decide (x5.2.1 < x5.2.2.2.2.1)) fun (x6 : Bool) =>
  (if (x6 = Bool.true) then
  (shr (d47_K2 x4) (fun (x7 : (((((List Int) × (Int × Unit)) × Unit) × (Unit × ((List IN) × (Int × (Int × Unit))))) → (Option (Unit × (((List Int) × (Int × Unit)) × Unit))))) => (if (((Decidable.decide ((0 : Int) ≤ x5.2.1)) && (Decidable.decide (x5.2.1 < (((List.length x5.2.2.2.1) : Nat) : Int)))) = Bool.true) then
  (lt (List.getD x5.2.2.2.1 (Int.toNat x5.2.1) ((0 : Int), ((0 : Int), ((0 : Int), (([] : List Int), ()))))) fun (x8 : IN) =>
  (lt (x5.1.1.2.1 != (0 : Int)) fun (x9 : Bool) =>
  (if (x9 = Bool.true) then
  (Option.some ((), (x5.1.1, ())))
  else (Option.bind (d48 x0 (x5.1.1, (x8, ()))) fun (x10 : (Unit × (((List Int) × (Int × Unit)) × Unit))) =>
  (x7 ((x10.2.1, ()), (x5.2.2.1, (x5.2.2.2.1, (x5.2.2.2.2.1, (x5.2.1, ()))))))))))
  else (Option.none))))
  else (x3 ((x5.1.1, ()), ()))))))
def d47 : (Nat → ((((List Int) × (Int × Unit)) × ((List IN) × (Int × (Unit × Unit)))) → (Option (Unit × (((List Int) × (Int × Unit)) × Unit))))) :=
  (fun (x0 : Nat) => (fun (x1 : (((List Int) × (Int × Unit)) × ((List IN) × (Int × (Unit × Unit))))) => (Option.bind (d69x2 x0 (x1.1, ((x1.2.1, (x1.2.2.1, ())), ()))) fun (x2 : (Unit × (((List Int) × (Int × Unit)) × Unit))) =>
  (shr d47_K1 (fun (x3 : (((((List Int) × (Int × Unit)) × Unit) × Unit) → (Option (Unit × (((List Int) × (Int × Unit)) × Unit))))) => (loopN (d47_L3 x0 x3) x0 ((x2.2.1, ()), ((0 : Int), (x1.2.2.2.1, (x1.2.1, ((((List.length x1.2.1) : Nat) : Int), ())))))))))))
theorem k47 : c_fn Tryd.prog [(70, ⟨s70, d70⟩), (69, ⟨s69x2, d69x2⟩), (69, ⟨s69x1, d69x1⟩), (69, ⟨s69, d69⟩), (48, ⟨s48, d48⟩)] Tryd.f47 s47 h47 = some d47 := by kernel_rfl
/-- (*bulkhead/codec.Writer).Done -/
def s49 : Sig := ⟨[((.ptr 106 (.pair (.sl 5 (.int .u8)) (.pair (.int .i64) .unit))), .val)], [((.sl 5 (.int .u8)), (.own (.ow .sh))), ((.int .i64), .val)]⟩
 def h49 : Hint := (.seq .leaf
   (.seq (.seq .leaf
   (.cond none
     (.seq .leaf
     .leaf)
     .leaf))
   (.seq .leaf
   .leaf)))
def d49 : (Nat → ((((List Int) × (Int × Unit)) × Unit) → (Option (((List Int) × (Int × Unit)) × Unit)))) :=
  (fun (x0 : Nat) => (fun (x1 : (((List Int) × (Int × Unit)) × Unit)) => (lt (x1.1.2.1 != (0 : Int)) fun (x2 : Bool) =>
  (if (x2 = Bool.true) then
  (Option.some ((([] : List Int), (x1.1.2.1, ())), ()))
  else (Option.bind (d64 x0 (x1.1.1, ())) fun (x3 : (((List Int) × Unit) × Unit)) =>
  (Option.some ((x3.1.1, ((0 : Int), ())), ())))))))
theorem k49 : c_fn Tryd.prog [(64, ⟨s64, d64⟩)] Tryd.f49 s49 h49 = some d49 := by kernel_rfl
/-- bulkhead/script.Encode -/
def s27 : Sig := ⟨[((.sl 24 (.pair (.int .i64) (.pair (.int .i64) (.pair (.int .i64) (.pair (.sl 2 (.int .i64)) .unit))))), .val)], [((.sl 5 (.int .u8)), (.own (.ow .sh))), ((.int .i64), .val)]⟩
 def h27 : Hint := (.seq .leaf
   (.seq .leaf
   (.seq .leaf
   (.seq .leaf
   (.seq (.seq .leaf
   (.cond none
     (.seq .leaf
     .leaf)
     .leaf))
   (.seq .leaf
   .leaf))))))
def d27 : (Nat → (((List IN) × Unit) → (Option (((List Int) × (Int × Unit)) × Unit)))) :=
  (fun (x0 : Nat) => (fun (x1 : ((List IN) × Unit)) => (Option.bind (d46 x0 ()) fun (x2 : ((((List Int) × (Int × Unit)) × Unit) × Unit)) =>
  (Option.bind (d47 x0 (x2.1.1, (x1.1, ((65536 : Int), ((), ()))))) fun (x3 : (Unit × (((List Int) × (Int × Unit)) × Unit))) =>
  (Option.bind (d49 x0 (x3.2.1, ())) fun (x4 : (((List Int) × (Int × Unit)) × Unit)) =>
  (lt (x4.1.2.1 != (0 : Int)) fun (x5 : Bool) =>
  (if (x5 = Bool.true) then
  (Option.some ((([] : List Int), ((1 : Int), ())), ()))
  else (Option.bind (d50 x0 ((3 : Int), (x4.1.1, ()))) fun (x6 : (((List Int) × (Int × Unit)) × Unit)) =>
  (Option.some ((x6.1.1, (x6.1.2.1, ())), ()))))))))))
theorem k27 : c_fn Tryd.prog [(46, ⟨s46, d46⟩), (47, ⟨s47, d47⟩), (48, ⟨s48, d48⟩), (49, ⟨s49, d49⟩), (50, ⟨s50, d50⟩)] Tryd.f27 s27 h27 = some d27 := by kernel_rfl
/-- bulkhead/bulkheadlaw21.ScriptOneForm -/
def s7 : Sig := ⟨[((.sl 5 (.int .u8)), .val)], [(.bool, .val)]⟩
 def h7 : Hint := (.seq .leaf
   (.seq .leaf
   (.seq (.seq .leaf
   (.cond none
     (.seq .leaf
     .leaf)
     .leaf))
   (.seq .leaf
   (.seq .leaf
   .leaf)))))
def d7 : (Nat → (((List Int) × Unit) → (Option ((Bool × Unit) × Unit)))) :=
  (fun (x0 : Nat) => (fun (x1 : ((List Int) × Unit)) => (if ((Go.Lift.appFits (List.length ([] : List Int)) (List.length x1.1) (1 : Nat)) = Bool.true) then
  (lt (([] : List Int) ++ x1.1) fun (x2 : (List Int)) =>
  (Option.bind (d26 x0 (x2, ())) fun (x3 : (((List IN) × (Int × Unit)) × Unit)) =>
  (lt (x3.1.2.1 != (0 : Int)) fun (x4 : Bool) =>
  (if (x4 = Bool.true) then
  (Option.bind (d19 x0 ()) fun (x5 : ((Bool × Unit) × Unit)) =>
  (lt (((List.length x3.1.1) : Nat) : Int) fun (x6 : Int) =>
  (lt (x6 == (0 : Int)) fun (x7 : Bool) =>
  (lt (if (x5.1.1 = Bool.true) then
  x7
  else Bool.false) fun (x8 : Bool) =>
  (lt (x3.1.2.1 == (20 : Int)) fun (x9 : Bool) =>
  (lt (x3.1.2.1 == (1 : Int)) fun (x10 : Bool) =>
  (lt (if (x9 = Bool.true) then
  Bool.true
  else x10) fun (x11 : Bool) =>
  (Option.some (((if (x8 = Bool.true) then
  x11
  else Bool.false), ()), ())))))))))
  else (Option.bind (d27 x0 (x3.1.1, ())) fun (x5 : (((List Int) × (Int × Unit)) × Unit)) =>
  (Option.bind (d19 x0 ()) fun (x6 : ((Bool × Unit) × Unit)) =>
  (lt (x5.1.2.1 == (0 : Int)) fun (x7 : Bool) =>
  (lt (if (x6.1.1 = Bool.true) then
  x7
  else Bool.false) fun (x8 : Bool) =>
  (Option.bind (if (((x8 == Bool.true) && Bool.true) = Bool.true) then
  (d16 x0 (x5.1.1, (x1.1, ())))
  else (Option.some ((Bool.false, ()), ()))) fun (x9 : ((Bool × Unit) × Unit)) =>
  (Option.some (((if (x8 = Bool.true) then
  x9.1.1
  else Bool.false), ()), ())))))))))))
  else (Option.none))))
theorem k7 : c_fn Tryd.prog [(26, ⟨s26, d26⟩), (19, ⟨s19, d19⟩), (27, ⟨s27, d27⟩), (16, ⟨s16, d16⟩)] Tryd.f7 s7 h7 = some d7 := by kernel_rfl
end Go.Proofs.YticemfakkgebhaaDoor.L
