import Derived.Test.YtlagcpfboljhnaaLiftD
import Derived.Test.YtlagcpfboljhnaaWhS
namespace Go.Proofs.Ytlagcpfboljhnaa.L
open Go Go.Lift Go.Proofs
set_option maxRecDepth 100000
set_option linter.unusedVariables false
abbrev I2 : Type := (Int × (Int × Unit))
abbrev WH : Type := (Int × ((Option (List (Int × Int))) × ((List (List (Option (List Int)))) × Unit)))
def ks0 : List (TypeId × Kt) := [(61, .arr 64 (.opt false (.sl 3 (.int .i64))))]
def ksN : List (TypeId × Kt) := [(24, .opt true (.ptr 64 (.pair (.int .i64) (.pair (.map (.int .i64) (.int .i64)) (.pair (.arr 7 (.arr 64 (.opt false (.sl 3 (.int .i64))))) .unit)))))] ++ ks0
abbrev kI2 : Kt := (.pair (.int .i64) (.pair (.int .i64) .unit))
abbrev kWh : Kt := (.pair (.int .i64) (.pair (.map (.int .i64) (.int .i64)) (.pair (.arr 7 (.arr 64 (.opt false (.sl 3 (.int .i64))))) .unit)))

/-- bulkhead/wheel.New -/
def s18 : Sig := ⟨[((.int .i64), .val)], [((.opt true (.ptr 64 kWh)), (.own (.ow (.pr .sh (.pr (.ow .sh) (.pr (.ow (.ow (.ow .sh))) .sh)))))), ((.int .i64), .val)]⟩
 def h18 : Hint := (.seq .leaf
   (.seq (.seq .leaf
   (.cond none
     (.seq .leaf
     .leaf)
     .leaf))
   (.seq .leaf
   .leaf)))
def d18 : (Nat → ((Int × Unit) → (Option (((Option WH) × (Int × Unit)) × Unit)))) :=
  (fun (x0 : Nat) => (fun (x1 : (Int × Unit)) => (lt (Decidable.decide (x1.1 < (0 : Int))) fun (x2 : Bool) =>
  (lt (Decidable.decide (x1.1 > (1099511627776 : Int))) fun (x3 : Bool) =>
  (lt (if (x2 = Bool.true) then
  Bool.true
  else x3) fun (x4 : Bool) =>
  (if (x4 = Bool.true) then
  (Option.some (((Option.none), ((2 : Int), ())), ()))
  else (Option.some (((Option.some (x1.1, ((Option.some ([] : List (Int × Int))), ((List.replicate (7 : Nat) (List.replicate (64 : Nat) (Option.some ([] : List Int)))), ())))), ((0 : Int), ())), ()))))))))
theorem k18 : c_fn Try.prog ⟨[], ksN, [], [Ytlagcpfboljhnaa.L.slotPf]⟩ Try.f18 s18 h18 = some d18 := by kernel_rfl
/-- math/bits.Len32 -/
def s41 : Sig := ⟨[((.int .u32), .val)], [((.int .i64), .val)]⟩
 def h41 : Hint := (.seq .leaf
   (.seq (.seq .leaf
   (.cond (some ⟨[], [((2, 0), (.val (.int .i64))), ((0, 0), (.val (.int .u32)))]⟩)
     (.seq .leaf
     .leaf)
     .leaf))
   (.seq (.seq .leaf
   (.cond (some ⟨[], [((0, 0), (.val (.int .u32))), ((2, 0), (.val (.int .i64)))]⟩)
     (.seq .leaf
     .leaf)
     .leaf))
   (.seq .leaf
   .leaf))))
def d41_K1  : ((Unit × I2) → (Option ((Int × Unit) × Unit))) :=
  (fun (x5 : (Unit × I2)) => (lt (Go.IntKind.wrap Go.IntKind.u8 x5.2.1) fun (x6 : Int) =>
  (if (((Decidable.decide ((0 : Int) ≤ x6)) && (Decidable.decide (x6 < (((ByteArray.size (ByteArray.mk (List.toArray (List.append (List.append ((0 : UInt8) :: ((1 : UInt8) :: ((2 : UInt8) :: ((2 : UInt8) :: ((3 : UInt8) :: ((3 : UInt8) :: ((3 : UInt8) :: ((3 : UInt8) :: ((4 : UInt8) :: ((4 : UInt8) :: ((4 : UInt8) :: ((4 : UInt8) :: ((4 : UInt8) :: ((4 : UInt8) :: ((4 : UInt8) :: ((4 : UInt8) :: ((5 : UInt8) :: ((5 : UInt8) :: ((5 : UInt8) :: ((5 : UInt8) :: ((5 : UInt8) :: ((5 : UInt8) :: ((5 : UInt8) :: ((5 : UInt8) :: ((5 : UInt8) :: ((5 : UInt8) :: ((5 : UInt8) :: ((5 : UInt8) :: ((5 : UInt8) :: ((5 : UInt8) :: ((5 : UInt8) :: ((5 : UInt8) :: ((6 : UInt8) :: ((6 : UInt8) :: ((6 : UInt8) :: ((6 : UInt8) :: ((6 : UInt8) :: ((6 : UInt8) :: ((6 : UInt8) :: ((6 : UInt8) :: ((6 : UInt8) :: ((6 : UInt8) :: ((6 : UInt8) :: ((6 : UInt8) :: ((6 : UInt8) :: ((6 : UInt8) :: ((6 : UInt8) :: ((6 : UInt8) :: ((6 : UInt8) :: ((6 : UInt8) :: ((6 : UInt8) :: ((6 : UInt8) :: ((6 : UInt8) :: ((6 : UInt8) :: ((6 : UInt8) :: ((6 : UInt8) :: ((6 : UInt8) :: ((6 : UInt8) :: ((6 : UInt8) :: ((6 : UInt8) :: ((6 : UInt8) :: ((6 : UInt8) :: ((6 : UInt8) :: ((6 : UInt8) :: ([] : List UInt8))))))))))))))))))))))))))))))))))))))))))))))))))))))))))))))))) ((7 : UInt8) :: ((7 : UInt8) :: ((7 : UInt8) :: ((7 : UInt8) :: ((7 : UInt8) :: ((7 : UInt8) :: ((7 : UInt8) :: ((7 : UInt8) :: ((7 : UInt8) :: ((7 : UInt8) :: ((7 : UInt8) :: ((7 : UInt8) :: ((7 : UInt8) :: ((7 : UInt8) :: ((7 : UInt8) :: ((7 : UInt8) :: ((7 : UInt8) :: ((7 : UInt8) :: ((7 : UInt8) :: ((7 : UInt8) :: ((7 : UInt8) :: ((7 : UInt8) :: ((7 : UInt8) :: ((7 : UInt8) :: ((7 : UInt8) :: ((7 : UInt8) :: ((7 : UInt8) :: ((7 : UInt8) :: ((7 : UInt8) :: ((7 : UInt8) :: ((7 : UInt8) :: ((7 : UInt8) :: ((7 : UInt8) :: ((7 : UInt8) :: ((7 : UInt8) :: ((7 : UInt8) :: ((7 : UInt8) :: ((7 : UInt8) :: ((7 : UInt8) :: ((7 : UInt8) :: ((7 : UInt8) :: ((7 : UInt8) :: ((7 : UInt8) :: ((7 : UInt8) :: ((7 : UInt8) :: ((7 : UInt8) :: ((7 : UInt8) :: ((7 : UInt8) :: ((7 : UInt8) :: ((7 : UInt8) :: ((7 : UInt8) :: ((7 : UInt8) :: ((7 : UInt8) :: ((7 : UInt8) :: ((7 : UInt8) :: ((7 : UInt8) :: ((7 : UInt8) :: ((7 : UInt8) :: ((7 : UInt8) :: ((7 : UInt8) :: ((7 : UInt8) :: ((7 : UInt8) :: ((7 : UInt8) :: ((7 : UInt8) :: ([] : List UInt8)))))))))))))))))))))))))))))))))))))))))))))))))))))))))))))))))) (List.append ((8 : UInt8) :: ((8 : UInt8) :: ((8 : UInt8) :: ((8 : UInt8) :: ((8 : UInt8) :: ((8 : UInt8) :: ((8 : UInt8) :: ((8 : UInt8) :: ((8 : UInt8) :: ((8 : UInt8) :: ((8 : UInt8) :: ((8 : UInt8) :: ((8 : UInt8) :: ((8 : UInt8) :: ((8 : UInt8) :: ((8 : UInt8) :: ((8 : UInt8) :: ((8 : UInt8) :: ((8 : UInt8) :: ((8 : UInt8) :: ((8 : UInt8) :: ((8 : UInt8) :: ((8 : UInt8) :: ((8 : UInt8) :: ((8 : UInt8) :: ((8 : UInt8) :: ((8 : UInt8) :: ((8 : UInt8) :: ((8 : UInt8) :: ((8 : UInt8) :: ((8 : UInt8) :: ((8 : UInt8) :: ((8 : UInt8) :: ((8 : UInt8) :: ((8 : UInt8) :: ((8 : UInt8) :: ((8 : UInt8) :: ((8 : UInt8) :: ((8 : UInt8) :: ((8 : UInt8) :: ((8 : UInt8) :: ((8 : UInt8) :: ((8 : UInt8) :: ((8 : UInt8) :: ((8 : UInt8) :: ((8 : UInt8) :: ((8 : UInt8) :: ((8 : UInt8) :: ((8 : UInt8) :: ((8 : UInt8) :: ((8 : UInt8) :: ((8 : UInt8) :: ((8 : UInt8) :: ((8 : UInt8) :: ((8 : UInt8) :: ((8 : UInt8) :: ((8 : UInt8) :: ((8 : UInt8) :: ((8 : UInt8) :: ((8 : UInt8) :: ((8 : UInt8) :: ((8 : UInt8) :: ((8 : UInt8) :: ((8 : UInt8) :: ([] : List UInt8))))))))))))))))))))))))))))))))))))))))))))))))))))))))))))))))) ((8 : UInt8) :: ((8 : UInt8) :: ((8 : UInt8) :: ((8 : UInt8) :: ((8 : UInt8) :: ((8 : UInt8) :: ((8 : UInt8) :: ((8 : UInt8) :: ((8 : UInt8) :: ((8 : UInt8) :: ((8 : UInt8) :: ((8 : UInt8) :: ((8 : UInt8) :: ((8 : UInt8) :: ((8 : UInt8) :: ((8 : UInt8) :: ((8 : UInt8) :: ((8 : UInt8) :: ((8 : UInt8) :: ((8 : UInt8) :: ((8 : UInt8) :: ((8 : UInt8) :: ((8 : UInt8) :: ((8 : UInt8) :: ((8 : UInt8) :: ((8 : UInt8) :: ((8 : UInt8) :: ((8 : UInt8) :: ((8 : UInt8) :: ((8 : UInt8) :: ((8 : UInt8) :: ((8 : UInt8) :: ((8 : UInt8) :: ((8 : UInt8) :: ((8 : UInt8) :: ((8 : UInt8) :: ((8 : UInt8) :: ((8 : UInt8) :: ((8 : UInt8) :: ((8 : UInt8) :: ((8 : UInt8) :: ((8 : UInt8) :: ((8 : UInt8) :: ((8 : UInt8) :: ((8 : UInt8) :: ((8 : UInt8) :: ((8 : UInt8) :: ((8 : UInt8) :: ((8 : UInt8) :: ((8 : UInt8) :: ((8 : UInt8) :: ((8 : UInt8) :: ((8 : UInt8) :: ((8 : UInt8) :: ((8 : UInt8) :: ((8 : UInt8) :: ((8 : UInt8) :: ((8 : UInt8) :: ((8 : UInt8) :: ((8 : UInt8) :: ((8 : UInt8) :: ((8 : UInt8) :: ((8 : UInt8) :: ((8 : UInt8) :: ([] : List UInt8)))))))))))))))))))))))))))))))))))))))))))))))))))))))))))))))))))))) : Nat) : Int)))) = Bool.true) then
  (Option.some (((Go.IntKind.wrap Go.IntKind.i64 (x5.2.2.1 + (Go.IntKind.wrap Go.IntKind.i64 (((UInt8.toNat (Array.getD (List.toArray (List.append (List.append ((0 : UInt8) :: ((1 : UInt8) :: ((2 : UInt8) :: ((2 : UInt8) :: ((3 : UInt8) :: ((3 : UInt8) :: ((3 : UInt8) :: ((3 : UInt8) :: ((4 : UInt8) :: ((4 : UInt8) :: ((4 : UInt8) :: ((4 : UInt8) :: ((4 : UInt8) :: ((4 : UInt8) :: ((4 : UInt8) :: ((4 : UInt8) :: ((5 : UInt8) :: ((5 : UInt8) :: ((5 : UInt8) :: ((5 : UInt8) :: ((5 : UInt8) :: ((5 : UInt8) :: ((5 : UInt8) :: ((5 : UInt8) :: ((5 : UInt8) :: ((5 : UInt8) :: ((5 : UInt8) :: ((5 : UInt8) :: ((5 : UInt8) :: ((5 : UInt8) :: ((5 : UInt8) :: ((5 : UInt8) :: ((6 : UInt8) :: ((6 : UInt8) :: ((6 : UInt8) :: ((6 : UInt8) :: ((6 : UInt8) :: ((6 : UInt8) :: ((6 : UInt8) :: ((6 : UInt8) :: ((6 : UInt8) :: ((6 : UInt8) :: ((6 : UInt8) :: ((6 : UInt8) :: ((6 : UInt8) :: ((6 : UInt8) :: ((6 : UInt8) :: ((6 : UInt8) :: ((6 : UInt8) :: ((6 : UInt8) :: ((6 : UInt8) :: ((6 : UInt8) :: ((6 : UInt8) :: ((6 : UInt8) :: ((6 : UInt8) :: ((6 : UInt8) :: ((6 : UInt8) :: ((6 : UInt8) :: ((6 : UInt8) :: ((6 : UInt8) :: ((6 : UInt8) :: ((6 : UInt8) :: ((6 : UInt8) :: ((6 : UInt8) :: ([] : List UInt8))))))))))))))))))))))))))))))))))))))))))))))))))))))))))))))))) ((7 : UInt8) :: ((7 : UInt8) :: ((7 : UInt8) :: ((7 : UInt8) :: ((7 : UInt8) :: ((7 : UInt8) :: ((7 : UInt8) :: ((7 : UInt8) :: ((7 : UInt8) :: ((7 : UInt8) :: ((7 : UInt8) :: ((7 : UInt8) :: ((7 : UInt8) :: ((7 : UInt8) :: ((7 : UInt8) :: ((7 : UInt8) :: ((7 : UInt8) :: ((7 : UInt8) :: ((7 : UInt8) :: ((7 : UInt8) :: ((7 : UInt8) :: ((7 : UInt8) :: ((7 : UInt8) :: ((7 : UInt8) :: ((7 : UInt8) :: ((7 : UInt8) :: ((7 : UInt8) :: ((7 : UInt8) :: ((7 : UInt8) :: ((7 : UInt8) :: ((7 : UInt8) :: ((7 : UInt8) :: ((7 : UInt8) :: ((7 : UInt8) :: ((7 : UInt8) :: ((7 : UInt8) :: ((7 : UInt8) :: ((7 : UInt8) :: ((7 : UInt8) :: ((7 : UInt8) :: ((7 : UInt8) :: ((7 : UInt8) :: ((7 : UInt8) :: ((7 : UInt8) :: ((7 : UInt8) :: ((7 : UInt8) :: ((7 : UInt8) :: ((7 : UInt8) :: ((7 : UInt8) :: ((7 : UInt8) :: ((7 : UInt8) :: ((7 : UInt8) :: ((7 : UInt8) :: ((7 : UInt8) :: ((7 : UInt8) :: ((7 : UInt8) :: ((7 : UInt8) :: ((7 : UInt8) :: ((7 : UInt8) :: ((7 : UInt8) :: ((7 : UInt8) :: ((7 : UInt8) :: ((7 : UInt8) :: ((7 : UInt8) :: ([] : List UInt8)))))))))))))))))))))))))))))))))))))))))))))))))))))))))))))))))) (List.append ((8 : UInt8) :: ((8 : UInt8) :: ((8 : UInt8) :: ((8 : UInt8) :: ((8 : UInt8) :: ((8 : UInt8) :: ((8 : UInt8) :: ((8 : UInt8) :: ((8 : UInt8) :: ((8 : UInt8) :: ((8 : UInt8) :: ((8 : UInt8) :: ((8 : UInt8) :: ((8 : UInt8) :: ((8 : UInt8) :: ((8 : UInt8) :: ((8 : UInt8) :: ((8 : UInt8) :: ((8 : UInt8) :: ((8 : UInt8) :: ((8 : UInt8) :: ((8 : UInt8) :: ((8 : UInt8) :: ((8 : UInt8) :: ((8 : UInt8) :: ((8 : UInt8) :: ((8 : UInt8) :: ((8 : UInt8) :: ((8 : UInt8) :: ((8 : UInt8) :: ((8 : UInt8) :: ((8 : UInt8) :: ((8 : UInt8) :: ((8 : UInt8) :: ((8 : UInt8) :: ((8 : UInt8) :: ((8 : UInt8) :: ((8 : UInt8) :: ((8 : UInt8) :: ((8 : UInt8) :: ((8 : UInt8) :: ((8 : UInt8) :: ((8 : UInt8) :: ((8 : UInt8) :: ((8 : UInt8) :: ((8 : UInt8) :: ((8 : UInt8) :: ((8 : UInt8) :: ((8 : UInt8) :: ((8 : UInt8) :: ((8 : UInt8) :: ((8 : UInt8) :: ((8 : UInt8) :: ((8 : UInt8) :: ((8 : UInt8) :: ((8 : UInt8) :: ((8 : UInt8) :: ((8 : UInt8) :: ((8 : UInt8) :: ((8 : UInt8) :: ((8 : UInt8) :: ((8 : UInt8) :: ((8 : UInt8) :: ((8 : UInt8) :: ([] : List UInt8))))))))))))))))))))))))))))))))))))))))))))))))))))))))))))))))) ((8 : UInt8) :: ((8 : UInt8) :: ((8 : UInt8) :: ((8 : UInt8) :: ((8 : UInt8) :: ((8 : UInt8) :: ((8 : UInt8) :: ((8 : UInt8) :: ((8 : UInt8) :: ((8 : UInt8) :: ((8 : UInt8) :: ((8 : UInt8) :: ((8 : UInt8) :: ((8 : UInt8) :: ((8 : UInt8) :: ((8 : UInt8) :: ((8 : UInt8) :: ((8 : UInt8) :: ((8 : UInt8) :: ((8 : UInt8) :: ((8 : UInt8) :: ((8 : UInt8) :: ((8 : UInt8) :: ((8 : UInt8) :: ((8 : UInt8) :: ((8 : UInt8) :: ((8 : UInt8) :: ((8 : UInt8) :: ((8 : UInt8) :: ((8 : UInt8) :: ((8 : UInt8) :: ((8 : UInt8) :: ((8 : UInt8) :: ((8 : UInt8) :: ((8 : UInt8) :: ((8 : UInt8) :: ((8 : UInt8) :: ((8 : UInt8) :: ((8 : UInt8) :: ((8 : UInt8) :: ((8 : UInt8) :: ((8 : UInt8) :: ((8 : UInt8) :: ((8 : UInt8) :: ((8 : UInt8) :: ((8 : UInt8) :: ((8 : UInt8) :: ((8 : UInt8) :: ((8 : UInt8) :: ((8 : UInt8) :: ((8 : UInt8) :: ((8 : UInt8) :: ((8 : UInt8) :: ((8 : UInt8) :: ((8 : UInt8) :: ((8 : UInt8) :: ((8 : UInt8) :: ((8 : UInt8) :: ((8 : UInt8) :: ((8 : UInt8) :: ((8 : UInt8) :: ((8 : UInt8) :: ((8 : UInt8) :: ((8 : UInt8) :: ([] : List UInt8)))))))))))))))))))))))))))))))))))))))))))))))))))))))))))))))))))) (Int.toNat x6) (0 : UInt8))) : Nat) : Int)))), ()), ()))
  else (Option.none))))
def d41_K2  : ((Unit × I2) → (Option ((Int × Unit) × Unit))) :=
  (fun (x3 : (Unit × I2)) => (lt (Decidable.decide (x3.2.2.1 ≥ (256 : Int))) fun (x4 : Bool) =>
  (shr d41_K1 (fun (x5 : ((Unit × I2) → (Option ((Int × Unit) × Unit)))) => (if (x4 = Bool.true) then
  (if ((Bool.not (Decidable.decide ((8 : Int) < (0 : Int)))) = Bool.true) then
  (x5 ((), ((Int.fdiv x3.2.2.1 (HPow.hPow (2 : Int) (Min.min (Int.toNat (8 : Int)) (Go.IntKind.bits Go.IntKind.u32)))), ((Go.IntKind.wrap Go.IntKind.i64 (x3.2.1 + (8 : Int))), ()))))
  else (Option.none))
  else (x5 ((), (x3.2.2.1, (x3.2.1, ())))))))))
def d41 : (Nat → ((Int × Unit) → (Option ((Int × Unit) × Unit)))) :=
  (fun (x0 : Nat) => (fun (x1 : (Int × Unit)) => (lt (Decidable.decide (x1.1 ≥ (65536 : Int))) fun (x2 : Bool) =>
  (shr d41_K2 (fun (x3 : ((Unit × I2) → (Option ((Int × Unit) × Unit)))) => (if (x2 = Bool.true) then
  (if ((Bool.not (Decidable.decide ((16 : Int) < (0 : Int)))) = Bool.true) then
  (x3 ((), ((16 : Int), ((Int.fdiv x1.1 (HPow.hPow (2 : Int) (Min.min (Int.toNat (16 : Int)) (Go.IntKind.bits Go.IntKind.u32)))), ()))))
  else (Option.none))
  else (x3 ((), ((0 : Int), (x1.1, ()))))))))))
theorem k41 : c_fn Try.prog ⟨[], ks0, [], [Ytlagcpfboljhnaa.L.slotPf]⟩ Try.f41 s41 h41 = some d41 := by kernel_rfl
/-- math/bits.Len64 -/
def s42 : Sig := ⟨[((.int .u64), .val)], [((.int .i64), .val)]⟩
 def h42 : Hint := (.seq .leaf
   (.seq (.seq .leaf
   (.cond (some ⟨[], [((2, 0), (.val (.int .i64))), ((0, 0), (.val (.int .u64)))]⟩)
     (.seq .leaf
     .leaf)
     .leaf))
   (.seq (.seq .leaf
   (.cond (some ⟨[], [((2, 0), (.val (.int .i64))), ((0, 0), (.val (.int .u64)))]⟩)
     (.seq .leaf
     .leaf)
     .leaf))
   (.seq (.seq .leaf
   (.cond (some ⟨[], [((0, 0), (.val (.int .u64))), ((2, 0), (.val (.int .i64)))]⟩)
     (.seq .leaf
     .leaf)
     .leaf))
   (.seq .leaf
   .leaf)))))
def d42_K1  : ((Unit × I2) → (Option ((Int × Unit) × Unit))) :=
  (fun (x7 : (Unit × I2)) => (lt (Go.IntKind.wrap Go.IntKind.u8 x7.2.1) fun (x8 : Int) =>
  (if (((Decidable.decide ((0 : Int) ≤ x8)) && (Decidable.decide (x8 < (((ByteArray.size (ByteArray.mk (List.toArray (List.append (List.append ((0 : UInt8) :: ((1 : UInt8) :: ((2 : UInt8) :: ((2 : UInt8) :: ((3 : UInt8) :: ((3 : UInt8) :: ((3 : UInt8) :: ((3 : UInt8) :: ((4 : UInt8) :: ((4 : UInt8) :: ((4 : UInt8) :: ((4 : UInt8) :: ((4 : UInt8) :: ((4 : UInt8) :: ((4 : UInt8) :: ((4 : UInt8) :: ((5 : UInt8) :: ((5 : UInt8) :: ((5 : UInt8) :: ((5 : UInt8) :: ((5 : UInt8) :: ((5 : UInt8) :: ((5 : UInt8) :: ((5 : UInt8) :: ((5 : UInt8) :: ((5 : UInt8) :: ((5 : UInt8) :: ((5 : UInt8) :: ((5 : UInt8) :: ((5 : UInt8) :: ((5 : UInt8) :: ((5 : UInt8) :: ((6 : UInt8) :: ((6 : UInt8) :: ((6 : UInt8) :: ((6 : UInt8) :: ((6 : UInt8) :: ((6 : UInt8) :: ((6 : UInt8) :: ((6 : UInt8) :: ((6 : UInt8) :: ((6 : UInt8) :: ((6 : UInt8) :: ((6 : UInt8) :: ((6 : UInt8) :: ((6 : UInt8) :: ((6 : UInt8) :: ((6 : UInt8) :: ((6 : UInt8) :: ((6 : UInt8) :: ((6 : UInt8) :: ((6 : UInt8) :: ((6 : UInt8) :: ((6 : UInt8) :: ((6 : UInt8) :: ((6 : UInt8) :: ((6 : UInt8) :: ((6 : UInt8) :: ((6 : UInt8) :: ((6 : UInt8) :: ((6 : UInt8) :: ((6 : UInt8) :: ((6 : UInt8) :: ((6 : UInt8) :: ([] : List UInt8))))))))))))))))))))))))))))))))))))))))))))))))))))))))))))))))) ((7 : UInt8) :: ((7 : UInt8) :: ((7 : UInt8) :: ((7 : UInt8) :: ((7 : UInt8) :: ((7 : UInt8) :: ((7 : UInt8) :: ((7 : UInt8) :: ((7 : UInt8) :: ((7 : UInt8) :: ((7 : UInt8) :: ((7 : UInt8) :: ((7 : UInt8) :: ((7 : UInt8) :: ((7 : UInt8) :: ((7 : UInt8) :: ((7 : UInt8) :: ((7 : UInt8) :: ((7 : UInt8) :: ((7 : UInt8) :: ((7 : UInt8) :: ((7 : UInt8) :: ((7 : UInt8) :: ((7 : UInt8) :: ((7 : UInt8) :: ((7 : UInt8) :: ((7 : UInt8) :: ((7 : UInt8) :: ((7 : UInt8) :: ((7 : UInt8) :: ((7 : UInt8) :: ((7 : UInt8) :: ((7 : UInt8) :: ((7 : UInt8) :: ((7 : UInt8) :: ((7 : UInt8) :: ((7 : UInt8) :: ((7 : UInt8) :: ((7 : UInt8) :: ((7 : UInt8) :: ((7 : UInt8) :: ((7 : UInt8) :: ((7 : UInt8) :: ((7 : UInt8) :: ((7 : UInt8) :: ((7 : UInt8) :: ((7 : UInt8) :: ((7 : UInt8) :: ((7 : UInt8) :: ((7 : UInt8) :: ((7 : UInt8) :: ((7 : UInt8) :: ((7 : UInt8) :: ((7 : UInt8) :: ((7 : UInt8) :: ((7 : UInt8) :: ((7 : UInt8) :: ((7 : UInt8) :: ((7 : UInt8) :: ((7 : UInt8) :: ((7 : UInt8) :: ((7 : UInt8) :: ((7 : UInt8) :: ((7 : UInt8) :: ([] : List UInt8)))))))))))))))))))))))))))))))))))))))))))))))))))))))))))))))))) (List.append ((8 : UInt8) :: ((8 : UInt8) :: ((8 : UInt8) :: ((8 : UInt8) :: ((8 : UInt8) :: ((8 : UInt8) :: ((8 : UInt8) :: ((8 : UInt8) :: ((8 : UInt8) :: ((8 : UInt8) :: ((8 : UInt8) :: ((8 : UInt8) :: ((8 : UInt8) :: ((8 : UInt8) :: ((8 : UInt8) :: ((8 : UInt8) :: ((8 : UInt8) :: ((8 : UInt8) :: ((8 : UInt8) :: ((8 : UInt8) :: ((8 : UInt8) :: ((8 : UInt8) :: ((8 : UInt8) :: ((8 : UInt8) :: ((8 : UInt8) :: ((8 : UInt8) :: ((8 : UInt8) :: ((8 : UInt8) :: ((8 : UInt8) :: ((8 : UInt8) :: ((8 : UInt8) :: ((8 : UInt8) :: ((8 : UInt8) :: ((8 : UInt8) :: ((8 : UInt8) :: ((8 : UInt8) :: ((8 : UInt8) :: ((8 : UInt8) :: ((8 : UInt8) :: ((8 : UInt8) :: ((8 : UInt8) :: ((8 : UInt8) :: ((8 : UInt8) :: ((8 : UInt8) :: ((8 : UInt8) :: ((8 : UInt8) :: ((8 : UInt8) :: ((8 : UInt8) :: ((8 : UInt8) :: ((8 : UInt8) :: ((8 : UInt8) :: ((8 : UInt8) :: ((8 : UInt8) :: ((8 : UInt8) :: ((8 : UInt8) :: ((8 : UInt8) :: ((8 : UInt8) :: ((8 : UInt8) :: ((8 : UInt8) :: ((8 : UInt8) :: ((8 : UInt8) :: ((8 : UInt8) :: ((8 : UInt8) :: ((8 : UInt8) :: ([] : List UInt8))))))))))))))))))))))))))))))))))))))))))))))))))))))))))))))))) ((8 : UInt8) :: ((8 : UInt8) :: ((8 : UInt8) :: ((8 : UInt8) :: ((8 : UInt8) :: ((8 : UInt8) :: ((8 : UInt8) :: ((8 : UInt8) :: ((8 : UInt8) :: ((8 : UInt8) :: ((8 : UInt8) :: ((8 : UInt8) :: ((8 : UInt8) :: ((8 : UInt8) :: ((8 : UInt8) :: ((8 : UInt8) :: ((8 : UInt8) :: ((8 : UInt8) :: ((8 : UInt8) :: ((8 : UInt8) :: ((8 : UInt8) :: ((8 : UInt8) :: ((8 : UInt8) :: ((8 : UInt8) :: ((8 : UInt8) :: ((8 : UInt8) :: ((8 : UInt8) :: ((8 : UInt8) :: ((8 : UInt8) :: ((8 : UInt8) :: ((8 : UInt8) :: ((8 : UInt8) :: ((8 : UInt8) :: ((8 : UInt8) :: ((8 : UInt8) :: ((8 : UInt8) :: ((8 : UInt8) :: ((8 : UInt8) :: ((8 : UInt8) :: ((8 : UInt8) :: ((8 : UInt8) :: ((8 : UInt8) :: ((8 : UInt8) :: ((8 : UInt8) :: ((8 : UInt8) :: ((8 : UInt8) :: ((8 : UInt8) :: ((8 : UInt8) :: ((8 : UInt8) :: ((8 : UInt8) :: ((8 : UInt8) :: ((8 : UInt8) :: ((8 : UInt8) :: ((8 : UInt8) :: ((8 : UInt8) :: ((8 : UInt8) :: ((8 : UInt8) :: ((8 : UInt8) :: ((8 : UInt8) :: ((8 : UInt8) :: ((8 : UInt8) :: ((8 : UInt8) :: ((8 : UInt8) :: ((8 : UInt8) :: ([] : List UInt8)))))))))))))))))))))))))))))))))))))))))))))))))))))))))))))))))))))) : Nat) : Int)))) = Bool.true) then
  (Option.some (((Go.IntKind.wrap Go.IntKind.i64 (x7.2.2.1 + (Go.IntKind.wrap Go.IntKind.i64 (((UInt8.toNat (Array.getD (List.toArray (List.append (List.append ((0 : UInt8) :: ((1 : UInt8) :: ((2 : UInt8) :: ((2 : UInt8) :: ((3 : UInt8) :: ((3 : UInt8) :: ((3 : UInt8) :: ((3 : UInt8) :: ((4 : UInt8) :: ((4 : UInt8) :: ((4 : UInt8) :: ((4 : UInt8) :: ((4 : UInt8) :: ((4 : UInt8) :: ((4 : UInt8) :: ((4 : UInt8) :: ((5 : UInt8) :: ((5 : UInt8) :: ((5 : UInt8) :: ((5 : UInt8) :: ((5 : UInt8) :: ((5 : UInt8) :: ((5 : UInt8) :: ((5 : UInt8) :: ((5 : UInt8) :: ((5 : UInt8) :: ((5 : UInt8) :: ((5 : UInt8) :: ((5 : UInt8) :: ((5 : UInt8) :: ((5 : UInt8) :: ((5 : UInt8) :: ((6 : UInt8) :: ((6 : UInt8) :: ((6 : UInt8) :: ((6 : UInt8) :: ((6 : UInt8) :: ((6 : UInt8) :: ((6 : UInt8) :: ((6 : UInt8) :: ((6 : UInt8) :: ((6 : UInt8) :: ((6 : UInt8) :: ((6 : UInt8) :: ((6 : UInt8) :: ((6 : UInt8) :: ((6 : UInt8) :: ((6 : UInt8) :: ((6 : UInt8) :: ((6 : UInt8) :: ((6 : UInt8) :: ((6 : UInt8) :: ((6 : UInt8) :: ((6 : UInt8) :: ((6 : UInt8) :: ((6 : UInt8) :: ((6 : UInt8) :: ((6 : UInt8) :: ((6 : UInt8) :: ((6 : UInt8) :: ((6 : UInt8) :: ((6 : UInt8) :: ((6 : UInt8) :: ((6 : UInt8) :: ([] : List UInt8))))))))))))))))))))))))))))))))))))))))))))))))))))))))))))))))) ((7 : UInt8) :: ((7 : UInt8) :: ((7 : UInt8) :: ((7 : UInt8) :: ((7 : UInt8) :: ((7 : UInt8) :: ((7 : UInt8) :: ((7 : UInt8) :: ((7 : UInt8) :: ((7 : UInt8) :: ((7 : UInt8) :: ((7 : UInt8) :: ((7 : UInt8) :: ((7 : UInt8) :: ((7 : UInt8) :: ((7 : UInt8) :: ((7 : UInt8) :: ((7 : UInt8) :: ((7 : UInt8) :: ((7 : UInt8) :: ((7 : UInt8) :: ((7 : UInt8) :: ((7 : UInt8) :: ((7 : UInt8) :: ((7 : UInt8) :: ((7 : UInt8) :: ((7 : UInt8) :: ((7 : UInt8) :: ((7 : UInt8) :: ((7 : UInt8) :: ((7 : UInt8) :: ((7 : UInt8) :: ((7 : UInt8) :: ((7 : UInt8) :: ((7 : UInt8) :: ((7 : UInt8) :: ((7 : UInt8) :: ((7 : UInt8) :: ((7 : UInt8) :: ((7 : UInt8) :: ((7 : UInt8) :: ((7 : UInt8) :: ((7 : UInt8) :: ((7 : UInt8) :: ((7 : UInt8) :: ((7 : UInt8) :: ((7 : UInt8) :: ((7 : UInt8) :: ((7 : UInt8) :: ((7 : UInt8) :: ((7 : UInt8) :: ((7 : UInt8) :: ((7 : UInt8) :: ((7 : UInt8) :: ((7 : UInt8) :: ((7 : UInt8) :: ((7 : UInt8) :: ((7 : UInt8) :: ((7 : UInt8) :: ((7 : UInt8) :: ((7 : UInt8) :: ((7 : UInt8) :: ((7 : UInt8) :: ((7 : UInt8) :: ([] : List UInt8)))))))))))))))))))))))))))))))))))))))))))))))))))))))))))))))))) (List.append ((8 : UInt8) :: ((8 : UInt8) :: ((8 : UInt8) :: ((8 : UInt8) :: ((8 : UInt8) :: ((8 : UInt8) :: ((8 : UInt8) :: ((8 : UInt8) :: ((8 : UInt8) :: ((8 : UInt8) :: ((8 : UInt8) :: ((8 : UInt8) :: ((8 : UInt8) :: ((8 : UInt8) :: ((8 : UInt8) :: ((8 : UInt8) :: ((8 : UInt8) :: ((8 : UInt8) :: ((8 : UInt8) :: ((8 : UInt8) :: ((8 : UInt8) :: ((8 : UInt8) :: ((8 : UInt8) :: ((8 : UInt8) :: ((8 : UInt8) :: ((8 : UInt8) :: ((8 : UInt8) :: ((8 : UInt8) :: ((8 : UInt8) :: ((8 : UInt8) :: ((8 : UInt8) :: ((8 : UInt8) :: ((8 : UInt8) :: ((8 : UInt8) :: ((8 : UInt8) :: ((8 : UInt8) :: ((8 : UInt8) :: ((8 : UInt8) :: ((8 : UInt8) :: ((8 : UInt8) :: ((8 : UInt8) :: ((8 : UInt8) :: ((8 : UInt8) :: ((8 : UInt8) :: ((8 : UInt8) :: ((8 : UInt8) :: ((8 : UInt8) :: ((8 : UInt8) :: ((8 : UInt8) :: ((8 : UInt8) :: ((8 : UInt8) :: ((8 : UInt8) :: ((8 : UInt8) :: ((8 : UInt8) :: ((8 : UInt8) :: ((8 : UInt8) :: ((8 : UInt8) :: ((8 : UInt8) :: ((8 : UInt8) :: ((8 : UInt8) :: ((8 : UInt8) :: ((8 : UInt8) :: ((8 : UInt8) :: ((8 : UInt8) :: ([] : List UInt8))))))))))))))))))))))))))))))))))))))))))))))))))))))))))))))))) ((8 : UInt8) :: ((8 : UInt8) :: ((8 : UInt8) :: ((8 : UInt8) :: ((8 : UInt8) :: ((8 : UInt8) :: ((8 : UInt8) :: ((8 : UInt8) :: ((8 : UInt8) :: ((8 : UInt8) :: ((8 : UInt8) :: ((8 : UInt8) :: ((8 : UInt8) :: ((8 : UInt8) :: ((8 : UInt8) :: ((8 : UInt8) :: ((8 : UInt8) :: ((8 : UInt8) :: ((8 : UInt8) :: ((8 : UInt8) :: ((8 : UInt8) :: ((8 : UInt8) :: ((8 : UInt8) :: ((8 : UInt8) :: ((8 : UInt8) :: ((8 : UInt8) :: ((8 : UInt8) :: ((8 : UInt8) :: ((8 : UInt8) :: ((8 : UInt8) :: ((8 : UInt8) :: ((8 : UInt8) :: ((8 : UInt8) :: ((8 : UInt8) :: ((8 : UInt8) :: ((8 : UInt8) :: ((8 : UInt8) :: ((8 : UInt8) :: ((8 : UInt8) :: ((8 : UInt8) :: ((8 : UInt8) :: ((8 : UInt8) :: ((8 : UInt8) :: ((8 : UInt8) :: ((8 : UInt8) :: ((8 : UInt8) :: ((8 : UInt8) :: ((8 : UInt8) :: ((8 : UInt8) :: ((8 : UInt8) :: ((8 : UInt8) :: ((8 : UInt8) :: ((8 : UInt8) :: ((8 : UInt8) :: ((8 : UInt8) :: ((8 : UInt8) :: ((8 : UInt8) :: ((8 : UInt8) :: ((8 : UInt8) :: ((8 : UInt8) :: ((8 : UInt8) :: ((8 : UInt8) :: ((8 : UInt8) :: ((8 : UInt8) :: ([] : List UInt8)))))))))))))))))))))))))))))))))))))))))))))))))))))))))))))))))))) (Int.toNat x8) (0 : UInt8))) : Nat) : Int)))), ()), ()))
  else (Option.none))))
def d42_K2  : ((Unit × I2) → (Option ((Int × Unit) × Unit))) :=
  (fun (x5 : (Unit × I2)) => (lt (Decidable.decide (x5.2.2.1 ≥ (256 : Int))) fun (x6 : Bool) =>
  (shr d42_K1 (fun (x7 : ((Unit × I2) → (Option ((Int × Unit) × Unit)))) => (if (x6 = Bool.true) then
  (if ((Bool.not (Decidable.decide ((8 : Int) < (0 : Int)))) = Bool.true) then
  (x7 ((), ((Int.fdiv x5.2.2.1 (HPow.hPow (2 : Int) (Min.min (Int.toNat (8 : Int)) (Go.IntKind.bits Go.IntKind.u64)))), ((Go.IntKind.wrap Go.IntKind.i64 (x5.2.1 + (8 : Int))), ()))))
  else (Option.none))
  else (x7 ((), (x5.2.2.1, (x5.2.1, ())))))))))
def d42_K3  : ((Unit × I2) → (Option ((Int × Unit) × Unit))) :=
  (fun (x3 : (Unit × I2)) => (lt (Decidable.decide (x3.2.2.1 ≥ (65536 : Int))) fun (x4 : Bool) =>
  (shr d42_K2 (fun (x5 : ((Unit × I2) → (Option ((Int × Unit) × Unit)))) => (if (x4 = Bool.true) then
  (if ((Bool.not (Decidable.decide ((16 : Int) < (0 : Int)))) = Bool.true) then
  (x5 ((), ((Go.IntKind.wrap Go.IntKind.i64 (x3.2.1 + (16 : Int))), ((Int.fdiv x3.2.2.1 (HPow.hPow (2 : Int) (Min.min (Int.toNat (16 : Int)) (Go.IntKind.bits Go.IntKind.u64)))), ()))))
  else (Option.none))
  else (x5 ((), (x3.2.1, (x3.2.2.1, ())))))))))
def d42 : (Nat → ((Int × Unit) → (Option ((Int × Unit) × Unit)))) :=
  (fun (x0 : Nat) => (fun (x1 : (Int × Unit)) => (lt (Decidable.decide (x1.1 ≥ (4294967296 : Int))) fun (x2 : Bool) =>
  (shr d42_K3 (fun (x3 : ((Unit × I2) → (Option ((Int × Unit) × Unit)))) => (if (x2 = Bool.true) then
  (if ((Bool.not (Decidable.decide ((32 : Int) < (0 : Int)))) = Bool.true) then
  (x3 ((), ((32 : Int), ((Int.fdiv x1.1 (HPow.hPow (2 : Int) (Min.min (Int.toNat (32 : Int)) (Go.IntKind.bits Go.IntKind.u64)))), ()))))
  else (Option.none))
  else (x3 ((), ((0 : Int), (x1.1, ()))))))))))
theorem k42 : c_fn Try.prog ⟨[], ks0, [], [Ytlagcpfboljhnaa.L.slotPf]⟩ Try.f42 s42 h42 = some d42 := by kernel_rfl
/-- math/bits.Len -/
def s36 : Sig := ⟨[((.int .u64), .val)], [((.int .i64), .val)]⟩
 def h36 : Hint := (.seq .leaf
   (.seq (.cond none
     (.seq .leaf
     .leaf)
     .leaf)
   (.seq .leaf
   .leaf)))
def d36 : (Nat → ((Int × Unit) → (Option ((Int × Unit) × Unit)))) :=
  (fun (x0 : Nat) => (fun (x1 : (Int × Unit)) => (if (Bool.false = Bool.true) then
  (Option.bind (d41 x0 ((Go.IntKind.wrap Go.IntKind.u32 x1.1), ())) fun (x2 : ((Int × Unit) × Unit)) =>
  (Option.some ((x2.1.1, ()), ())))
  else (Option.bind (d42 x0 (x1.1, ())) fun (x2 : ((Int × Unit) × Unit)) =>
  (Option.some ((x2.1.1, ()), ()))))))
theorem k36 : c_fn Try.prog ⟨[(41, ⟨s41, d41⟩), (42, ⟨s42, d42⟩)], ks0, [], [Ytlagcpfboljhnaa.L.slotPf]⟩ Try.f36 s36 h36 = some d36 := by kernel_rfl
/-- bulkhead/wheel.digit -/
def s26 : Sig := ⟨[((.int .i64), .val), ((.int .i64), .val)], [((.int .i64), .val)]⟩
 def h26 : Hint := (.seq .leaf
   (.seq .leaf
   .leaf))
def d26 : (Nat → (I2 → (Option ((Int × Unit) × Unit)))) :=
  (fun (x0 : Nat) => (fun (x1 : I2) => (lt (Go.IntKind.wrap Go.IntKind.i64 ((6 : Int) * x1.2.1)) fun (x2 : Int) =>
  (if ((Bool.not (Decidable.decide (x2 < (0 : Int)))) = Bool.true) then
  (Option.some (((Go.IntKind.wrap Go.IntKind.i64 (((BitVec.toNat ((BitVec.ofInt (Go.IntKind.bits Go.IntKind.i64) (Int.fdiv x1.1 (HPow.hPow (2 : Int) (Min.min (Int.toNat x2) (Go.IntKind.bits Go.IntKind.i64))))) &&& (BitVec.ofInt (Go.IntKind.bits Go.IntKind.i64) (63 : Int)))) : Nat) : Int)), ()), ()))
  else (Option.none)))))
theorem k26 : c_fn Try.prog ⟨[], ks0, [], [Ytlagcpfboljhnaa.L.slotPf]⟩ Try.f26 s26 h26 = some d26 := by kernel_rfl
/-- (*bulkhead/wheel.Wheel).Cancel$1 -/
def s29 : Sig := ⟨[((.int .i64), .val), ((.ptr 3 (.int .i64)), .val)], [(.bool, .val)]⟩
 def h29 : Hint := (.seq .leaf
   (.seq .leaf
   .leaf))
def d29 : (Nat → (I2 → (Option ((Bool × Unit) × Unit)))) :=
  (fun (x0 : Nat) => (fun (x1 : I2) => (Option.some (((x1.1 == x1.2.1), ()), ()))))
theorem k29 : c_fn Try.prog ⟨[], ks0, [], [Ytlagcpfboljhnaa.L.slotPf]⟩ Try.f29 s29 h29 = some d29 := by kernel_rfl
/-- slices.DeleteFunc[[]int,int] -/
def s28 : Sig := ⟨[((.sl 3 (.int .i64)), (.tak (.ow .sh))), ((.fn 29 (.pair (.ptr 3 (.int .i64)) .unit)), .val)], [((.sl 3 (.int .i64)), (.own (.ow .sh)))]⟩
def d28 (_ : Nat) (x : List Int × ((Int × Unit) × Unit)) : Option ((List Int × Unit) × Unit) := if x.1.isEmpty then none else some ((x.1.filter fun y => !(y == x.2.1.1), ()), ())
/-- (*bulkhead/wheel.Wheel).Cancel -/
def s17 : Sig := ⟨[((.ptr 64 kWh), (.mut (.ow (.pr .sh (.pr (.ow .sh) (.pr (.ow (.ow (.ow .sh))) .sh)))))), ((.int .i64), .val)], [(.bool, .val)]⟩
 def h17 : Hint := (.seq .leaf
   (.seq .leaf
   (.seq (.seq .leaf
   (.cond none
     (.seq .leaf
     .leaf)
     .leaf))
   (.seq .leaf
   (.seq .leaf
   (.seq .leaf
   (.seq .leaf
   .leaf)))))))
def d17 : (Nat → ((WH × (Int × Unit)) → (Option ((Bool × Unit) × (WH × Unit))))) :=
  (fun (x0 : Nat) => (fun (x1 : (WH × (Int × Unit))) => (lt (Option.getD (Go.Lift.mget (Go.Lift.Kt.int Go.IntKind.i64) (Go.Lift.Kt.int Go.IntKind.i64) x1.2.1 x1.1.2.1) (0 : Int)) fun (x2 : Int) =>
  (lt (Option.isSome (Go.Lift.mget (Go.Lift.Kt.int Go.IntKind.i64) (Go.Lift.Kt.int Go.IntKind.i64) x1.2.1 x1.1.2.1)) fun (x3 : Bool) =>
  (lt (Bool.not x3) fun (x4 : Bool) =>
  (if (x4 = Bool.true) then
  (Option.some ((Bool.false, ()), (x1.1, ())))
  else (if ((Decidable.decide (((0 : Int) ≤ x1.1.1) ∧ ((x1.1.1 ≤ (1099511627776 : Int)) ∧ (((0 : Int) ≤ x2) ∧ (x2 ≤ (1099511627776 : Int)))))) = Bool.true) then
  (if (((Decidable.decide ((lvl (Int.toNat x1.1.1) (Int.toNat x2)) < (List.length x1.1.2.2.1))) && ((Decidable.decide ((dig (Int.toNat x2) (lvl (Int.toNat x1.1.1) (Int.toNat x2))) < (List.length (List.getD x1.1.2.2.1 (lvl (Int.toNat x1.1.1) (Int.toNat x2)) (List.replicate (64 : Nat) (Option.some ([] : List Int))))))) && Bool.true)) = Bool.true) then
  (if ((((Decidable.decide ((lvl (Int.toNat x1.1.1) (Int.toNat x2)) < (List.length x1.1.2.2.1))) && ((Decidable.decide ((dig (Int.toNat x2) (lvl (Int.toNat x1.1.1) (Int.toNat x2))) < (List.length (List.getD x1.1.2.2.1 (lvl (Int.toNat x1.1.1) (Int.toNat x2)) (List.replicate (64 : Nat) (Option.some ([] : List Int))))))) && Bool.true)) && (Option.isSome (List.getD (List.getD x1.1.2.2.1 (lvl (Int.toNat x1.1.1) (Int.toNat x2)) (List.replicate (64 : Nat) (Option.some ([] : List Int)))) (dig (Int.toNat x2) (lvl (Int.toNat x1.1.1) (Int.toNat x2))) (Option.some ([] : List Int))))) = Bool.true) then
  (lt (Option.getD (List.getD (List.getD x1.1.2.2.1 (lvl (Int.toNat x1.1.1) (Int.toNat x2)) (List.replicate (64 : Nat) (Option.some ([] : List Int)))) (dig (Int.toNat x2) (lvl (Int.toNat x1.1.1) (Int.toNat x2))) (Option.some ([] : List Int))) ([] : List Int)) fun (x5 : (List Int)) =>
  (lt (List.set x1.1.2.2.1 (lvl (Int.toNat x1.1.1) (Int.toNat x2)) (List.set (List.getD x1.1.2.2.1 (lvl (Int.toNat x1.1.1) (Int.toNat x2)) (List.replicate (64 : Nat) (Option.some ([] : List Int)))) (dig (Int.toNat x2) (lvl (Int.toNat x1.1.1) (Int.toNat x2))) (Option.none))) fun (x6 : (List (List (Option (List Int))))) =>
  (Option.bind (d28 x0 (x5, ((x1.2.1, ()), ()))) fun (x7 : (((List Int) × Unit) × Unit)) =>
  (if (((Decidable.decide ((lvl (Int.toNat x1.1.1) (Int.toNat x2)) < (List.length x6))) && ((Decidable.decide ((dig (Int.toNat x2) (lvl (Int.toNat x1.1.1) (Int.toNat x2))) < (List.length (List.getD x6 (lvl (Int.toNat x1.1.1) (Int.toNat x2)) (List.replicate (64 : Nat) (Option.some ([] : List Int))))))) && Bool.true)) = Bool.true) then
  (if (((Decidable.decide ((lvl (Int.toNat x1.1.1) (Int.toNat x2)) < (List.length x6))) && ((Decidable.decide ((dig (Int.toNat x2) (lvl (Int.toNat x1.1.1) (Int.toNat x2))) < (List.length (List.getD x6 (lvl (Int.toNat x1.1.1) (Int.toNat x2)) (List.replicate (64 : Nat) (Option.some ([] : List Int))))))) && Bool.true)) = Bool.true) then
  (lt (List.set x6 (lvl (Int.toNat x1.1.1) (Int.toNat x2)) (List.set (List.getD x6 (lvl (Int.toNat x1.1.1) (Int.toNat x2)) (List.replicate (64 : Nat) (Option.some ([] : List Int)))) (dig (Int.toNat x2) (lvl (Int.toNat x1.1.1) (Int.toNat x2))) (Option.some x7.1.1))) fun (x8 : (List (List (Option (List Int))))) =>
  (if ((Option.isSome x1.1.2.1) = Bool.true) then
  (Option.some ((Bool.true, ()), ((x1.1.1, ((Option.map (Go.Lift.mdel (Go.Lift.Kt.int Go.IntKind.i64) (Go.Lift.Kt.int Go.IntKind.i64) x1.2.1) x1.1.2.1), (x8, x1.1.2.2.2))), ())))
  else (Option.none)))
  else (Option.none))
  else (Option.none)))))
  else (Option.none))
  else (Option.none))
  else (Option.none))))))))
theorem k17 : c_fn Try.prog ⟨[(29, ⟨s29, d29⟩), (28, ⟨s28, d28⟩)], ks0, [3, 25], [Ytlagcpfboljhnaa.L.slotPf]⟩ Try.f17 s17 h17 = some d17 := by kernel_rfl
/-- (*bulkhead/wheel.Wheel).lay -/
def s27 : Sig := ⟨[((.ptr 64 kWh), (.mut (.ow (.pr .sh (.pr (.ow .sh) (.pr (.ow (.ow (.ow .sh))) .sh)))))), ((.int .i64), .val), ((.int .i64), .val)], []⟩
 def h27 : Hint := (.seq .leaf
   (.seq .leaf
   .leaf))
def d27 : (Nat → ((WH × I2) → (Option (Unit × (WH × Unit))))) :=
  (fun (x0 : Nat) => (fun (x1 : (WH × I2)) => (if ((Decidable.decide (((0 : Int) ≤ x1.1.1) ∧ ((x1.1.1 ≤ (1099511627776 : Int)) ∧ (((0 : Int) ≤ x1.2.2.1) ∧ (x1.2.2.1 ≤ (1099511627776 : Int)))))) = Bool.true) then
  (if (((Decidable.decide ((lvl (Int.toNat x1.1.1) (Int.toNat x1.2.2.1)) < (List.length x1.1.2.2.1))) && ((Decidable.decide ((dig (Int.toNat x1.2.2.1) (lvl (Int.toNat x1.1.1) (Int.toNat x1.2.2.1))) < (List.length (List.getD x1.1.2.2.1 (lvl (Int.toNat x1.1.1) (Int.toNat x1.2.2.1)) (List.replicate (64 : Nat) (Option.some ([] : List Int))))))) && Bool.true)) = Bool.true) then
  (if ((((Decidable.decide ((lvl (Int.toNat x1.1.1) (Int.toNat x1.2.2.1)) < (List.length x1.1.2.2.1))) && ((Decidable.decide ((dig (Int.toNat x1.2.2.1) (lvl (Int.toNat x1.1.1) (Int.toNat x1.2.2.1))) < (List.length (List.getD x1.1.2.2.1 (lvl (Int.toNat x1.1.1) (Int.toNat x1.2.2.1)) (List.replicate (64 : Nat) (Option.some ([] : List Int))))))) && Bool.true)) && (Option.isSome (List.getD (List.getD x1.1.2.2.1 (lvl (Int.toNat x1.1.1) (Int.toNat x1.2.2.1)) (List.replicate (64 : Nat) (Option.some ([] : List Int)))) (dig (Int.toNat x1.2.2.1) (lvl (Int.toNat x1.1.1) (Int.toNat x1.2.2.1))) (Option.some ([] : List Int))))) = Bool.true) then
  (lt (Option.getD (List.getD (List.getD x1.1.2.2.1 (lvl (Int.toNat x1.1.1) (Int.toNat x1.2.2.1)) (List.replicate (64 : Nat) (Option.some ([] : List Int)))) (dig (Int.toNat x1.2.2.1) (lvl (Int.toNat x1.1.1) (Int.toNat x1.2.2.1))) (Option.some ([] : List Int))) ([] : List Int)) fun (x2 : (List Int)) =>
  (lt (List.set x1.1.2.2.1 (lvl (Int.toNat x1.1.1) (Int.toNat x1.2.2.1)) (List.set (List.getD x1.1.2.2.1 (lvl (Int.toNat x1.1.1) (Int.toNat x1.2.2.1)) (List.replicate (64 : Nat) (Option.some ([] : List Int)))) (dig (Int.toNat x1.2.2.1) (lvl (Int.toNat x1.1.1) (Int.toNat x1.2.2.1))) (Option.none))) fun (x3 : (List (List (Option (List Int))))) =>
  (lt (x1.2.1 :: ([] : List Int)) fun (x4 : (List Int)) =>
  (if ((Go.Lift.appFits (List.length x2) (List.length x4) (8 : Nat)) = Bool.true) then
  (lt (x2 ++ x4) fun (x5 : (List Int)) =>
  (if (((Decidable.decide ((lvl (Int.toNat x1.1.1) (Int.toNat x1.2.2.1)) < (List.length x3))) && ((Decidable.decide ((dig (Int.toNat x1.2.2.1) (lvl (Int.toNat x1.1.1) (Int.toNat x1.2.2.1))) < (List.length (List.getD x3 (lvl (Int.toNat x1.1.1) (Int.toNat x1.2.2.1)) (List.replicate (64 : Nat) (Option.some ([] : List Int))))))) && Bool.true)) = Bool.true) then
  (if (((Decidable.decide ((lvl (Int.toNat x1.1.1) (Int.toNat x1.2.2.1)) < (List.length x3))) && ((Decidable.decide ((dig (Int.toNat x1.2.2.1) (lvl (Int.toNat x1.1.1) (Int.toNat x1.2.2.1))) < (List.length (List.getD x3 (lvl (Int.toNat x1.1.1) (Int.toNat x1.2.2.1)) (List.replicate (64 : Nat) (Option.some ([] : List Int))))))) && Bool.true)) = Bool.true) then
  (lt (List.set x3 (lvl (Int.toNat x1.1.1) (Int.toNat x1.2.2.1)) (List.set (List.getD x3 (lvl (Int.toNat x1.1.1) (Int.toNat x1.2.2.1)) (List.replicate (64 : Nat) (Option.some ([] : List Int)))) (dig (Int.toNat x1.2.2.1) (lvl (Int.toNat x1.1.1) (Int.toNat x1.2.2.1))) (Option.some x5))) fun (x6 : (List (List (Option (List Int))))) =>
  (if ((Option.isSome x1.1.2.1) = Bool.true) then
  (Option.some ((), ((x1.1.1, ((Option.map (Go.Lift.mput (Go.Lift.Kt.int Go.IntKind.i64) (Go.Lift.Kt.int Go.IntKind.i64) x1.2.1 x1.2.2.1) x1.1.2.1), (x6, x1.1.2.2.2))), ())))
  else (Option.none)))
  else (Option.none))
  else (Option.none)))
  else (Option.none)))))
  else (Option.none))
  else (Option.none))
  else (Option.none))))
theorem k27 : c_fn Try.prog ⟨[], ks0, [13], [Ytlagcpfboljhnaa.L.slotPf]⟩ Try.f27 s27 h27 = some d27 := by kernel_rfl
/-- (*bulkhead/wheel.Wheel).Arm -/
def s15 : Sig := ⟨[((.ptr 64 kWh), (.mut (.ow (.pr .sh (.pr (.ow .sh) (.pr (.ow (.ow (.ow .sh))) .sh)))))), ((.int .i64), .val), ((.int .i64), .val)], [((.int .i64), .val)]⟩
 def h15 : Hint := (.seq .leaf
   (.seq (.seq .leaf
   (.cond none
     (.seq .leaf
     .leaf)
     .leaf))
   (.seq .leaf
   (.seq .leaf
   (.seq .leaf
   .leaf)))))
def d15 : (Nat → ((WH × I2) → (Option ((Int × Unit) × (WH × Unit))))) :=
  (fun (x0 : Nat) => (fun (x1 : (WH × I2)) => (lt (Decidable.decide (x1.2.1 < (0 : Int))) fun (x2 : Bool) =>
  (lt (Decidable.decide (x1.2.1 > (65535 : Int))) fun (x3 : Bool) =>
  (lt (if (x2 = Bool.true) then
  Bool.true
  else x3) fun (x4 : Bool) =>
  (lt (Decidable.decide (x1.2.2.1 < x1.1.1)) fun (x5 : Bool) =>
  (lt (if (x4 = Bool.true) then
  Bool.true
  else x5) fun (x6 : Bool) =>
  (lt (Decidable.decide (x1.2.2.1 ≥ (1099511627776 : Int))) fun (x7 : Bool) =>
  (lt (if (x6 = Bool.true) then
  Bool.true
  else x7) fun (x8 : Bool) =>
  (if (x8 = Bool.true) then
  (Option.some (((2 : Int), ()), (x1.1, ())))
  else (Option.bind (d17 x0 (x1.1, (x1.2.1, ()))) fun (x9 : ((Bool × Unit) × (WH × Unit))) =>
  (Option.bind (d27 x0 (x9.2.1, (x1.2.1, (x1.2.2.1, ())))) fun (x10 : (Unit × (WH × Unit))) =>
  (Option.some (((0 : Int), ()), (x10.2.1, ())))))))))))))))
theorem k15 : c_fn Try.prog ⟨[(17, ⟨s17, d17⟩), (27, ⟨s27, d27⟩)], ks0, [], [Ytlagcpfboljhnaa.L.slotPf]⟩ Try.f15 s15 h15 = some d15 := by kernel_rfl
/-- bulkhead/bulkheadlaw07.filled -/
def s6 : Sig := ⟨[((.int .i64), .val), ((.sl 34 kI2), .val)], [((.opt true (.ptr 64 kWh)), (.own (.ow (.pr .sh (.pr (.ow .sh) (.pr (.ow (.ow (.ow .sh))) .sh))))))]⟩
 def h6 : Hint := (.seq .leaf
   (.seq .leaf
   (.seq (.seq .leaf
   (.cond none
     (.seq .leaf
     .leaf)
     .leaf))
   (.seq (.seq .leaf
   (.block ⟨[((.opt true (.ptr 64 kWh)), (.ow (.pr .sh (.pr (.ow .sh) (.pr (.ow (.ow (.ow .sh))) .sh)))), (5, 0))], [((5, 0), (.own 0))]⟩ true
     (.loop ⟨[((.opt true (.ptr 64 kWh)), (.ow (.pr .sh (.pr (.ow .sh) (.pr (.ow (.ow (.ow .sh))) .sh)))), (5, 0))], [((7, 0), (.val (.int .i64))), ((1, 0), (.val (.sl 34 kI2))), ((5, 0), (.own 0))]⟩
       (.seq (.seq .leaf
       (.cond none
         .leaf
         .leaf))
       (.seq (.block ⟨[((.opt true (.ptr 64 kWh)), (.ow (.pr .sh (.pr (.ow .sh) (.pr (.ow (.ow (.ow .sh))) .sh)))), (5, 0))], [((1, 0), (.val (.sl 34 kI2))), ((5, 0), (.own 0)), ((7, 0), (.val (.int .i64)))]⟩ true
         .leaf)
       .leaf)))))
   (.seq .leaf
   .leaf)))))
def d6_K1  : ((((Option WH) × Unit) × Unit) → (Option (((Option WH) × Unit) × Unit))) :=
  (fun (x6 : (((Option WH) × Unit) × Unit)) => (Option.some ((x6.1.1, ()), ())))
def d6_K2 (x7 : ((((Option WH) × Unit) × (Int × ((List I2) × Unit))) → (Option (((Option WH) × Unit) × Unit)))) : ((((Option WH) × Unit) × ((List I2) × (Int × Unit))) → (Option (((Option WH) × Unit) × Unit))) :=
  (fun (x11 : (((Option WH) × Unit) × ((List I2) × (Int × Unit)))) => (x7 ((x11.1.1, ()), ((Go.IntKind.wrap Go.IntKind.i64 (x11.2.2.1 + (1 : Int))), (x11.2.1, ())))))
def d6_L3 (x0 : Nat) (x6 : ((((Option WH) × Unit) × Unit) → (Option (((Option WH) × Unit) × Unit)))) : (((((Option WH) × Unit) × (Int × ((List I2) × Unit))) → (Option (((Option WH) × Unit) × Unit))) → ((((Option WH) × Unit) × (Int × ((List I2) × Unit))) → (Option (((Option WH) × Unit) × Unit)))) :=
  (fun (x7 : ((((Option WH) × Unit) × (Int × ((List I2) × Unit))) → (Option (((Option WH) × Unit) × Unit)))) => (fun (x8 : (((Option WH) × Unit) × (Int × ((List I2) × Unit)))) => (lt (((List.length x8.2.2.1) : Nat) : Int) fun (x9 : Int) =>
  (lt (Decidable.decide (x8.2.1 < x9)) fun (x10 : Bool) =>
  (if (x10 = Bool.true) then
  (shr (d6_K2 x7) (fun (x11 : ((((Option WH) × Unit) × ((List I2) × (Int × Unit))) → (Option (((Option WH) × Unit) × Unit)))) => (if (((Decidable.decide ((0 : Int) ≤ x8.2.1)) && (Decidable.decide (x8.2.1 < (((List.length x8.2.2.1) : Nat) : Int)))) = Bool.true) then
  (lt (List.getD x8.2.2.1 (Int.toNat x8.2.1) ((0 : Int), ((0 : Int), ()))).2.1 fun (x12 : Int) =>
  (if (((Decidable.decide ((0 : Int) ≤ x8.2.1)) && (Decidable.decide (x8.2.1 < (((List.length x8.2.2.1) : Nat) : Int)))) = Bool.true) then
  (lt (List.getD x8.2.2.1 (Int.toNat x8.2.1) ((0 : Int), ((0 : Int), ()))).1 fun (x13 : Int) =>
  (Option.bind (if ((Option.isSome x8.1.1) = Bool.true) then
  (d15 x0 ((Option.getD x8.1.1 ((0 : Int), ((Option.none), ((List.replicate (7 : Nat) (List.replicate (64 : Nat) (Option.some ([] : List Int)))), ())))), (x12, (x13, ()))))
  else (Option.none)) fun (x14 : ((Int × Unit) × (WH × Unit))) =>
  (x11 (((Option.some x14.2.1), ()), (x8.2.2.1, (x8.2.1, ()))))))
  else (Option.none)))
  else (Option.none))))
  else (x6 ((x8.1.1, ()), ())))))))
def d6 : (Nat → ((Int × ((List I2) × Unit)) → (Option (((Option WH) × Unit) × Unit)))) :=
  (fun (x0 : Nat) => (fun (x1 : (Int × ((List I2) × Unit))) => (Option.bind (d18 x0 (x1.1, ())) fun (x2 : (((Option WH) × (Int × Unit)) × Unit)) =>
  (lt (Option.isNone x2.1.1) fun (x3 : Bool) =>
  (lt (x2.1.2.1 != (0 : Int)) fun (x4 : Bool) =>
  (lt (if (x3 = Bool.true) then
  Bool.true
  else x4) fun (x5 : Bool) =>
  (if (x5 = Bool.true) then
  (Option.some (((Option.none), ()), ()))
  else (shr d6_K1 (fun (x6 : ((((Option WH) × Unit) × Unit) → (Option (((Option WH) × Unit) × Unit)))) => (loopN (d6_L3 x0 x6) x0 ((x2.1.1, ()), ((0 : Int), (x1.2.1, ())))))))))))))
theorem k6 : c_fn Try.prog ⟨[(18, ⟨s18, d18⟩), (15, ⟨s15, d15⟩)], ksN, [], [Ytlagcpfboljhnaa.L.slotPf]⟩ Try.f6 s6 h6 = some d6 := by kernel_rfl
/-- (*bulkhead/wheel.Wheel).Next -/
def s12 : Sig := ⟨[((.ptr 64 kWh), .val)], [((.int .i64), .val), (.bool, .val)]⟩
 def h12 : Hint := (.seq .leaf
   (.seq (.seq .leaf
   (.block ⟨[], []⟩ true
     (.loop ⟨[], [((0, 0), (.val (.ptr 64 kWh))), ((10, 0), (.val (.int .i64)))]⟩
       (.seq .leaf
       (.seq (.cond none
         .leaf
         .leaf)
       (.seq (.block ⟨[], [((0, 0), (.val (.ptr 64 kWh))), ((10, 0), (.val (.int .i64)))]⟩ true
         (.seq .leaf
         (.seq .leaf
         (.block ⟨[], [((0, 0), (.val (.ptr 64 kWh))), ((10, 0), (.val (.int .i64)))]⟩ true
           (.loop ⟨[], [((20, 0), (.val (.int .i64))), ((0, 0), (.val (.ptr 64 kWh))), ((4, 0), (.val (.int .i64))), ((10, 0), (.val (.int .i64))), ((19, 0), (.val (.int .i64)))]⟩
             (.seq .leaf
             (.seq (.cond none
               .leaf
               .leaf)
             (.seq (.block ⟨[], [((0, 0), (.val (.ptr 64 kWh))), ((4, 0), (.val (.int .i64))), ((10, 0), (.val (.int .i64))), ((19, 0), (.val (.int .i64))), ((20, 0), (.val (.int .i64)))]⟩ true
               (.seq .leaf
               (.seq .leaf
               (.seq (.seq .leaf
               (.cond none
                 .leaf
                 .leaf))
               (.seq .leaf
               (.seq (.seq .leaf
               (.block ⟨[], [((7, 0), (.val (.int .i64)))]⟩ true
                 (.loop ⟨[], [((51, 0), (.val (.int .i64))), ((0, 0), (.val (.ptr 64 kWh))), ((7, 0), (.val (.int .i64))), ((49, 0), (.val (.sl 3 (.int .i64)))), ((50, 0), (.val (.int .i64)))]⟩
                   (.seq .leaf
                   (.seq (.cond none
                     .leaf
                     .leaf)
                   (.seq (.block ⟨[], [((0, 0), (.val (.ptr 64 kWh))), ((7, 0), (.val (.int .i64))), ((49, 0), (.val (.sl 3 (.int .i64)))), ((50, 0), (.val (.int .i64))), ((51, 0), (.val (.int .i64)))]⟩ true
                     (.seq .leaf
                     .leaf))
                   .leaf))))))
               (.seq .leaf
               .leaf)))))))
             .leaf))))))))
       .leaf))))))
   (.seq .leaf
   .leaf)))
def d12_K1  : ((Unit × Unit) → (Option ((Int × (Bool × Unit)) × Unit))) :=
  (fun (x2 : (Unit × Unit)) => (Option.some (((0 : Int), (Bool.false, ())), ())))
def d12_K2 (x3 : ((Unit × (WH × (Int × Unit))) → (Option ((Int × (Bool × Unit)) × Unit)))) : ((Unit × (WH × (Int × Unit))) → (Option ((Int × (Bool × Unit)) × Unit))) :=
  (fun (x6 : (Unit × (WH × (Int × Unit)))) => (x3 ((), (x6.2.1, ((Go.IntKind.wrap Go.IntKind.i64 (x6.2.2.1 + (1 : Int))), ())))))
def d12_K3 (x6 : ((Unit × (WH × (Int × Unit))) → (Option ((Int × (Bool × Unit)) × Unit)))) : ((Unit × (WH × (Int × Unit))) → (Option ((Int × (Bool × Unit)) × Unit))) :=
  (fun (x8 : (Unit × (WH × (Int × Unit)))) => (x6 ((), (x8.2.1, (x8.2.2.1, ())))))
def d12_K4 (x9 : ((Unit × (Int × (WH × (Int × I2)))) → (Option ((Int × (Bool × Unit)) × Unit)))) : ((Unit × (WH × (Int × (Int × I2)))) → (Option ((Int × (Bool × Unit)) × Unit))) :=
  (fun (x12 : (Unit × (WH × (Int × (Int × I2))))) => (x9 ((), ((Go.IntKind.wrap Go.IntKind.i64 (x12.2.2.2.2.2.1 + (1 : Int))), (x12.2.1, (x12.2.2.1, (x12.2.2.2.1, (x12.2.2.2.2.1, ()))))))))
def d12_K5  : ((Unit × (Int × Unit)) → (Option ((Int × (Bool × Unit)) × Unit))) :=
  (fun (x18 : (Unit × (Int × Unit))) => (Option.some ((x18.2.1, (Bool.true, ())), ())))
def d12_K6 (x19 : ((Unit × (Int × (WH × (Int × ((List Int) × (Int × Unit)))))) → (Option ((Int × (Bool × Unit)) × Unit)))) : ((Unit × (WH × (Int × ((List Int) × I2)))) → (Option ((Int × (Bool × Unit)) × Unit))) :=
  (fun (x22 : (Unit × (WH × (Int × ((List Int) × I2))))) => (x19 ((), ((Go.IntKind.wrap Go.IntKind.i64 (x22.2.2.2.2.2.1 + (1 : Int))), (x22.2.1, (x22.2.2.1, (x22.2.2.2.1, (x22.2.2.2.2.1, ()))))))))
def d12_L7 (x18 : ((Unit × (Int × Unit)) → (Option ((Int × (Bool × Unit)) × Unit)))) : (((Unit × (Int × (WH × (Int × ((List Int) × (Int × Unit)))))) → (Option ((Int × (Bool × Unit)) × Unit))) → ((Unit × (Int × (WH × (Int × ((List Int) × (Int × Unit)))))) → (Option ((Int × (Bool × Unit)) × Unit)))) :=
  (fun (x19 : ((Unit × (Int × (WH × (Int × ((List Int) × (Int × Unit)))))) → (Option ((Int × (Bool × Unit)) × Unit)))) => (fun (x20 : (Unit × (Int × (WH × (Int × ((List Int) × (Int × Unit))))))) => (lt (Decidable.decide (x20.2.1 < x20.2.2.2.2.2.1)) fun (x21 : Bool) =>
  (if (x21 = Bool.true) then
  (shr (d12_K6 x19) (fun (x22 : ((Unit × (WH × (Int × ((List Int) × I2)))) → (Option ((Int × (Bool × Unit)) × Unit)))) => (if (((Decidable.decide ((0 : Int) ≤ x20.2.1)) && (Decidable.decide (x20.2.1 < (((List.length x20.2.2.2.2.1) : Nat) : Int)))) = Bool.true) then
  (lt (List.getD x20.2.2.2.2.1 (Int.toNat x20.2.1) (0 : Int)) fun (x23 : Int) =>
  (lt (Option.getD (Go.Lift.mget (Go.Lift.Kt.int Go.IntKind.i64) (Go.Lift.Kt.int Go.IntKind.i64) x23 x20.2.2.1.2.1) (0 : Int)) fun (x24 : Int) =>
  (x22 ((), (x20.2.2.1, ((if (x24 < x20.2.2.2.1) then
  x24
  else x20.2.2.2.1), (x20.2.2.2.2.1, (x20.2.2.2.2.2.1, (x20.2.1, ())))))))))
  else (Option.none))))
  else (x18 ((), (x20.2.2.2.1, ())))))))
def d12_L8 (x0 : Nat) (x8 : ((Unit × (WH × (Int × Unit))) → (Option ((Int × (Bool × Unit)) × Unit)))) : (((Unit × (Int × (WH × (Int × I2)))) → (Option ((Int × (Bool × Unit)) × Unit))) → ((Unit × (Int × (WH × (Int × I2)))) → (Option ((Int × (Bool × Unit)) × Unit)))) :=
  (fun (x9 : ((Unit × (Int × (WH × (Int × I2)))) → (Option ((Int × (Bool × Unit)) × Unit)))) => (fun (x10 : (Unit × (Int × (WH × (Int × I2))))) => (lt (Decidable.decide (x10.2.1 < x10.2.2.2.2.2.1)) fun (x11 : Bool) =>
  (if (x11 = Bool.true) then
  (shr (d12_K4 x9) (fun (x12 : ((Unit × (WH × (Int × (Int × I2)))) → (Option ((Int × (Bool × Unit)) × Unit)))) => (Option.bind (d26 x0 (x10.2.2.1.1, (x10.2.2.2.1, ()))) fun (x13 : ((Int × Unit) × Unit)) =>
  (lt (Go.IntKind.wrap Go.IntKind.i64 (x13.1.1 + x10.2.1)) fun (x14 : Int) =>
  (if (((Decidable.decide ((0 : Int) ≤ x10.2.2.2.1)) && (Decidable.decide (x10.2.2.2.1 < (((7 : Nat) : Nat) : Int)))) = Bool.true) then
  (if (((Decidable.decide ((0 : Int) ≤ x14)) && (Decidable.decide (x14 < (((64 : Nat) : Nat) : Int)))) = Bool.true) then
  (if ((Option.isSome (List.getD (List.getD x10.2.2.1.2.2.1 (Int.toNat x10.2.2.2.1) (List.replicate (64 : Nat) (Option.some ([] : List Int)))) (Int.toNat x14) (Option.some ([] : List Int)))) = Bool.true) then
  (lt (Option.getD (List.getD (List.getD x10.2.2.1.2.2.1 (Int.toNat x10.2.2.2.1) (List.replicate (64 : Nat) (Option.some ([] : List Int)))) (Int.toNat x14) (Option.some ([] : List Int))) ([] : List Int)) fun (x15 : (List Int)) =>
  (lt (((List.length x15) : Nat) : Int) fun (x16 : Int) =>
  (lt (x16 == (0 : Int)) fun (x17 : Bool) =>
  (if (x17 = Bool.true) then
  (x12 ((), (x10.2.2.1, (x10.2.2.2.1, (x10.2.2.2.2.1, (x10.2.2.2.2.2.1, (x10.2.1, ())))))))
  else (if (((Decidable.decide ((0 : Int) ≤ (0 : Int))) && (Decidable.decide ((0 : Int) < (((List.length x15) : Nat) : Int)))) = Bool.true) then
  (shr d12_K5 (fun (x18 : ((Unit × (Int × Unit)) → (Option ((Int × (Bool × Unit)) × Unit)))) => (loopN (d12_L7 x18) x0 ((), ((0 : Int), (x10.2.2.1, ((Option.getD (Go.Lift.mget (Go.Lift.Kt.int Go.IntKind.i64) (Go.Lift.Kt.int Go.IntKind.i64) (List.getD x15 (Int.toNat (0 : Int)) (0 : Int)) x10.2.2.1.2.1) (0 : Int)), (x15, ((((List.length x15) : Nat) : Int), ())))))))))
  else (Option.none))))))
  else (Option.none))
  else (Option.none))
  else (Option.none))))))
  else (x8 ((), (x10.2.2.1, (x10.2.2.2.2.1, ()))))))))
def d12_L9 (x0 : Nat) (x2 : ((Unit × Unit) → (Option ((Int × (Bool × Unit)) × Unit)))) : (((Unit × (WH × (Int × Unit))) → (Option ((Int × (Bool × Unit)) × Unit))) → ((Unit × (WH × (Int × Unit))) → (Option ((Int × (Bool × Unit)) × Unit)))) :=
  (fun (x3 : ((Unit × (WH × (Int × Unit))) → (Option ((Int × (Bool × Unit)) × Unit)))) => (fun (x4 : (Unit × (WH × (Int × Unit)))) => (lt (Decidable.decide (x4.2.2.1 < (7 : Int))) fun (x5 : Bool) =>
  (if (x5 = Bool.true) then
  (shr (d12_K2 x3) (fun (x6 : ((Unit × (WH × (Int × Unit))) → (Option ((Int × (Bool × Unit)) × Unit)))) => (Option.bind (d26 x0 (x4.2.1.1, (x4.2.2.1, ()))) fun (x7 : ((Int × Unit) × Unit)) =>
  (shr (d12_K3 x6) (fun (x8 : ((Unit × (WH × (Int × Unit))) → (Option ((Int × (Bool × Unit)) × Unit)))) => (loopN (d12_L8 x0 x8) x0 ((), ((0 : Int), (x4.2.1, (x4.2.2.1, (x4.2.2.1, ((Go.IntKind.wrap Go.IntKind.i64 ((64 : Int) - x7.1.1)), ()))))))))))))
  else (x2 ((), ()))))))
def d12 : (Nat → ((WH × Unit) → (Option ((Int × (Bool × Unit)) × Unit)))) :=
  (fun (x0 : Nat) => (fun (x1 : (WH × Unit)) => (shr d12_K1 (fun (x2 : ((Unit × Unit) → (Option ((Int × (Bool × Unit)) × Unit)))) => (loopN (d12_L9 x0 x2) x0 ((), (x1.1, ((0 : Int), ()))))))))
theorem k12 : c_fn Try.prog ⟨[(26, ⟨s26, d26⟩)], ks0, [], [Ytlagcpfboljhnaa.L.slotPf]⟩ Try.f12 s12 h12 = some d12 := by kernel_rfl
/-- (*bulkhead/wheel.Wheel).move -/
def s23 : Sig := ⟨[((.ptr 64 kWh), (.mut (.ow (.pr .sh (.pr (.ow .sh) (.pr (.ow (.ow (.ow .sh))) .sh)))))), ((.int .i64), .val)], []⟩
 def h23 : Hint := (.seq .leaf
   (.seq .leaf
   (.block ⟨[((.ptr 64 kWh), (.ow (.pr .sh (.pr (.ow .sh) (.pr (.ow (.ow (.ow .sh))) .sh)))), (0, 0))], [((0, 0), (.own 0))]⟩ true
     (.loop ⟨[((.ptr 64 kWh), (.ow (.pr .sh (.pr (.ow .sh) (.pr (.ow (.ow (.ow .sh))) .sh)))), (0, 0))], [((0, 0), (.own 0)), ((13, 0), (.val (.int .i64))), ((1, 0), (.val (.int .i64)))]⟩
       (.seq .leaf
       (.seq (.cond none
         .leaf
         .leaf)
       (.seq (.block ⟨[((.ptr 64 kWh), (.ow (.pr .sh (.pr (.ow .sh) (.pr (.ow (.ow (.ow .sh))) .sh)))), (0, 0))], [((0, 0), (.own 0)), ((1, 0), (.val (.int .i64))), ((13, 0), (.val (.int .i64)))]⟩ true
         (.seq .leaf
         (.seq .leaf
         (.seq .leaf
         (.seq .leaf
         (.seq .leaf
         (.block ⟨[((.ptr 64 kWh), (.ow (.pr .sh (.pr (.ow .sh) (.pr (.ow (.ow (.ow .sh))) .sh)))), (0, 0))], [((0, 0), (.own 0)), ((1, 0), (.val (.int .i64))), ((13, 0), (.val (.int .i64)))]⟩ true
           (.loop ⟨[((.ptr 64 kWh), (.ow (.pr .sh (.pr (.ow .sh) (.pr (.ow (.ow (.ow .sh))) .sh)))), (0, 0)), ((.sl 3 (.int .i64)), (.ow .sh), (32, 0))], [((34, 0), (.val (.int .i64))), ((0, 0), (.own 0)), ((32, 0), (.own 1)), ((1, 0), (.val (.int .i64))), ((13, 0), (.val (.int .i64))), ((33, 0), (.val (.int .i64)))]⟩
             (.seq .leaf
             (.seq (.cond none
               .leaf
               .leaf)
             (.seq (.block ⟨[((.ptr 64 kWh), (.ow (.pr .sh (.pr (.ow .sh) (.pr (.ow (.ow (.ow .sh))) .sh)))), (0, 0)), ((.sl 3 (.int .i64)), (.ow .sh), (32, 0))], [((0, 0), (.own 0)), ((32, 0), (.own 1)), ((1, 0), (.val (.int .i64))), ((13, 0), (.val (.int .i64))), ((33, 0), (.val (.int .i64))), ((34, 0), (.val (.int .i64)))]⟩ true
               (.seq .leaf
               .leaf))
             .leaf)))))))))))
       .leaf)))))))
def d23_K1  : (((WH × Unit) × Unit) → (Option (Unit × (WH × Unit)))) :=
  (fun (x2 : ((WH × Unit) × Unit)) => (Option.some ((), (x2.1.1, ()))))
def d23_K2 (x3 : (((WH × Unit) × I2) → (Option (Unit × (WH × Unit))))) : (((WH × Unit) × I2) → (Option (Unit × (WH × Unit)))) :=
  (fun (x6 : ((WH × Unit) × I2)) => (x3 ((x6.1.1, ()), ((Go.IntKind.wrap Go.IntKind.i64 (x6.2.2.1 + (1 : Int))), (x6.2.1, ())))))
def d23_K3 (x6 : (((WH × Unit) × I2) → (Option (Unit × (WH × Unit))))) : (((WH × Unit) × I2) → (Option (Unit × (WH × Unit)))) :=
  (fun (x12 : ((WH × Unit) × I2)) => (x6 ((x12.1.1, ()), (x12.2.1, (x12.2.2.1, ())))))
def d23_K4 (x13 : (((WH × ((List Int) × Unit)) × (Int × (Int × I2))) → (Option (Unit × (WH × Unit))))) : (((WH × ((List Int) × Unit)) × (Int × (Int × I2))) → (Option (Unit × (WH × Unit)))) :=
  (fun (x16 : ((WH × ((List Int) × Unit)) × (Int × (Int × I2)))) => (x13 ((x16.1.1, (x16.1.2.1, ())), ((Go.IntKind.wrap Go.IntKind.i64 (x16.2.2.2.2.1 + (1 : Int))), (x16.2.1, (x16.2.2.1, (x16.2.2.2.1, ())))))))
def d23_L5 (x0 : Nat) (x12 : (((WH × Unit) × I2) → (Option (Unit × (WH × Unit))))) : ((((WH × ((List Int) × Unit)) × (Int × (Int × I2))) → (Option (Unit × (WH × Unit)))) → (((WH × ((List Int) × Unit)) × (Int × (Int × I2))) → (Option (Unit × (WH × Unit))))) :=
  (fun (x13 : (((WH × ((List Int) × Unit)) × (Int × (Int × I2))) → (Option (Unit × (WH × Unit))))) => (fun (x14 : ((WH × ((List Int) × Unit)) × (Int × (Int × I2)))) => (lt (Decidable.decide (x14.2.1 < x14.2.2.2.2.1)) fun (x15 : Bool) =>
  (if (x15 = Bool.true) then
  (shr (d23_K4 x13) (fun (x16 : (((WH × ((List Int) × Unit)) × (Int × (Int × I2))) → (Option (Unit × (WH × Unit))))) => (if (((Decidable.decide ((0 : Int) ≤ x14.2.1)) && (Decidable.decide (x14.2.1 < (((List.length x14.1.2.1) : Nat) : Int)))) = Bool.true) then
  (if (((Decidable.decide ((Int.toNat x14.2.1) < (List.length x14.1.2.1))) && Bool.true) = Bool.true) then
  (lt (List.getD x14.1.2.1 (Int.toNat x14.2.1) (0 : Int)) fun (x17 : Int) =>
  (Option.bind (d27 x0 (x14.1.1, (x17, ((Option.getD (Go.Lift.mget (Go.Lift.Kt.int Go.IntKind.i64) (Go.Lift.Kt.int Go.IntKind.i64) x17 x14.1.1.2.1) (0 : Int)), ())))) fun (x18 : (Unit × (WH × Unit))) =>
  (x16 ((x18.2.1, (x14.1.2.1, ())), (x14.2.2.1, (x14.2.2.2.1, (x14.2.2.2.2.1, (x14.2.1, ()))))))))
  else (Option.none))
  else (Option.none))))
  else (x12 ((x14.1.1, ()), (x14.2.2.1, (x14.2.2.2.1, ()))))))))
def d23_L6 (x0 : Nat) (x2 : (((WH × Unit) × Unit) → (Option (Unit × (WH × Unit))))) : ((((WH × Unit) × I2) → (Option (Unit × (WH × Unit)))) → (((WH × Unit) × I2) → (Option (Unit × (WH × Unit))))) :=
  (fun (x3 : (((WH × Unit) × I2) → (Option (Unit × (WH × Unit))))) => (fun (x4 : ((WH × Unit) × I2)) => (lt (Decidable.decide (x4.2.1 < (6 : Int))) fun (x5 : Bool) =>
  (if (x5 = Bool.true) then
  (shr (d23_K2 x3) (fun (x6 : (((WH × Unit) × I2) → (Option (Unit × (WH × Unit))))) => (lt (Go.IntKind.wrap Go.IntKind.i64 ((6 : Int) - x4.2.1)) fun (x7 : Int) =>
  (lt (Go.IntKind.wrap Go.IntKind.i64 ((6 : Int) - x4.2.1)) fun (x8 : Int) =>
  (Option.bind (d26 x0 (x4.2.2.1, (x8, ()))) fun (x9 : ((Int × Unit) × Unit)) =>
  (if (((Decidable.decide ((0 : Int) ≤ x7)) && (Decidable.decide (x7 < (((7 : Nat) : Nat) : Int)))) = Bool.true) then
  (if ((((Decidable.decide ((Int.toNat x7) < (List.length x4.1.1.2.2.1))) && Bool.true) && ((Decidable.decide ((0 : Int) ≤ x9.1.1)) && (Decidable.decide (x9.1.1 < (((64 : Nat) : Nat) : Int))))) = Bool.true) then
  (if (((Decidable.decide ((Int.toNat x7) < (List.length x4.1.1.2.2.1))) && ((Decidable.decide ((Int.toNat x9.1.1) < (List.length (List.getD x4.1.1.2.2.1 (Int.toNat x7) (List.replicate (64 : Nat) (Option.some ([] : List Int))))))) && Bool.true)) = Bool.true) then
  (if ((((Decidable.decide ((Int.toNat x7) < (List.length x4.1.1.2.2.1))) && ((Decidable.decide ((Int.toNat x9.1.1) < (List.length (List.getD x4.1.1.2.2.1 (Int.toNat x7) (List.replicate (64 : Nat) (Option.some ([] : List Int))))))) && Bool.true)) && (Option.isSome (List.getD (List.getD x4.1.1.2.2.1 (Int.toNat x7) (List.replicate (64 : Nat) (Option.some ([] : List Int)))) (Int.toNat x9.1.1) (Option.some ([] : List Int))))) = Bool.true) then
  (lt (Option.getD (List.getD (List.getD x4.1.1.2.2.1 (Int.toNat x7) (List.replicate (64 : Nat) (Option.some ([] : List Int)))) (Int.toNat x9.1.1) (Option.some ([] : List Int))) ([] : List Int)) fun (x10 : (List Int)) =>
  (lt (List.set x4.1.1.2.2.1 (Int.toNat x7) (List.set (List.getD x4.1.1.2.2.1 (Int.toNat x7) (List.replicate (64 : Nat) (Option.some ([] : List Int)))) (Int.toNat x9.1.1) (Option.none))) fun (x11 : (List (List (Option (List Int))))) =>
  (if (((Decidable.decide ((Int.toNat x7) < (List.length x11))) && ((Decidable.decide ((Int.toNat x9.1.1) < (List.length (List.getD x11 (Int.toNat x7) (List.replicate (64 : Nat) (Option.some ([] : List Int))))))) && Bool.true)) = Bool.true) then
  (if (((Decidable.decide ((Int.toNat x7) < (List.length x11))) && ((Decidable.decide ((Int.toNat x9.1.1) < (List.length (List.getD x11 (Int.toNat x7) (List.replicate (64 : Nat) (Option.some ([] : List Int))))))) && Bool.true)) = Bool.true) then
  (shr (d23_K3 x6) (fun (x12 : (((WH × Unit) × I2) → (Option (Unit × (WH × Unit))))) => (loopN (d23_L5 x0 x12) x0 (((x4.1.1.1, (x4.1.1.2.1, ((List.set x11 (Int.toNat x7) (List.set (List.getD x11 (Int.toNat x7) (List.replicate (64 : Nat) (Option.some ([] : List Int)))) (Int.toNat x9.1.1) (Option.some ([] : List Int)))), x4.1.1.2.2.2))), (x10, ())), ((0 : Int), (x4.2.2.1, (x4.2.1, ((((List.length x10) : Nat) : Int), ()))))))))
  else (Option.none))
  else (Option.none))))
  else (Option.none))
  else (Option.none))
  else (Option.none))
  else (Option.none)))))))
  else (x2 ((x4.1.1, ()), ()))))))
def d23 : (Nat → ((WH × (Int × Unit)) → (Option (Unit × (WH × Unit))))) :=
  (fun (x0 : Nat) => (fun (x1 : (WH × (Int × Unit))) => (shr d23_K1 (fun (x2 : (((WH × Unit) × Unit) → (Option (Unit × (WH × Unit))))) => (loopN (d23_L6 x0 x2) x0 (((x1.2.1, x1.1.2), ()), ((0 : Int), (x1.2.1, ()))))))))
theorem k23 : c_fn Try.prog ⟨[(26, ⟨s26, d26⟩), (27, ⟨s27, d27⟩)], ks0, [29], [Ytlagcpfboljhnaa.L.slotPf]⟩ Try.f23 s23 h23 = some d23 := by kernel_rfl
/-- slices.Sort[[]int,int] -/
def s25 : Sig := ⟨[((.sl 3 (.int .i64)), (.mut (.ow .sh)))], []⟩
def d25 (_ : Nat) (x : List Int × Unit) : Option (Unit × List Int × Unit) := if x.1.length < 4611686018427387904 then some ((), (x.1.mergeSort fun x y => decide (x ≤ y), ())) else none
/-- (*bulkhead/wheel.Wheel).Advance -/
def s7 : Sig := ⟨[((.ptr 64 kWh), (.mut (.ow (.pr .sh (.pr (.ow .sh) (.pr (.ow (.ow (.ow .sh))) .sh)))))), ((.int .i64), .val)], [((.sl 34 kI2), (.own (.ow .sh))), ((.int .i64), .val)]⟩
 def h7 : Hint := (.seq .leaf
   (.seq (.seq .leaf
   (.cond none
     (.seq .leaf
     .leaf)
     .leaf))
   (.seq .leaf
   (.block ⟨[], []⟩ false
     (.loop ⟨[((.ptr 64 kWh), (.ow (.pr .sh (.pr (.ow .sh) (.pr (.ow (.ow (.ow .sh))) .sh)))), (0, 0)), ((.sl 34 kI2), (.ow .sh), (6, 0))], [((0, 0), (.own 0)), ((6, 0), (.own 1)), ((1, 0), (.val (.int .i64)))]⟩
       (.block ⟨[((.ptr 64 kWh), (.ow (.pr .sh (.pr (.ow .sh) (.pr (.ow (.ow (.ow .sh))) .sh)))), (0, 0)), ((.sl 34 kI2), (.ow .sh), (6, 0))], [((0, 0), (.own 0)), ((6, 0), (.own 1)), ((1, 0), (.val (.int .i64)))]⟩ true
         (.seq .leaf
         (.seq (.seq .leaf
         (.cond none
           (.seq .leaf
           (.seq .leaf
           .leaf))
           .leaf))
         (.seq .leaf
         (.seq .leaf
         (.seq .leaf
         (.seq .leaf
         (.seq .leaf
         (.seq .leaf
         (.block ⟨[((.ptr 64 kWh), (.ow (.pr .sh (.pr (.ow .sh) (.pr (.ow (.ow (.ow .sh))) .sh)))), (0, 0)), ((.sl 34 kI2), (.ow .sh), (6, 0))], [((0, 0), (.own 0)), ((6, 0), (.own 1)), ((1, 0), (.val (.int .i64)))]⟩ true
           (.loop ⟨[((.ptr 64 kWh), (.ow (.pr .sh (.pr (.ow .sh) (.pr (.ow (.ow (.ow .sh))) .sh)))), (0, 0)), ((.sl 34 kI2), (.ow .sh), (6, 0)), ((.sl 3 (.int .i64)), (.ow .sh), (52, 0))], [((54, 0), (.val (.int .i64))), ((0, 0), (.own 0)), ((7, 0), (.val (.int .i64))), ((6, 0), (.own 1)), ((52, 0), (.own 2)), ((1, 0), (.val (.int .i64))), ((53, 0), (.val (.int .i64)))]⟩
             (.seq .leaf
             (.seq (.cond none
               .leaf
               .leaf)
             (.seq (.block ⟨[((.ptr 64 kWh), (.ow (.pr .sh (.pr (.ow .sh) (.pr (.ow (.ow (.ow .sh))) .sh)))), (0, 0)), ((.sl 34 kI2), (.ow .sh), (6, 0)), ((.sl 3 (.int .i64)), (.ow .sh), (52, 0))], [((0, 0), (.own 0)), ((7, 0), (.val (.int .i64))), ((6, 0), (.own 1)), ((52, 0), (.own 2)), ((1, 0), (.val (.int .i64))), ((53, 0), (.val (.int .i64))), ((54, 0), (.val (.int .i64)))]⟩ true
               (.seq .leaf
               (.seq .leaf
               .leaf)))
             .leaf)))))))))))))))))))
def d7_K1  : ((Unit × Unit) → (Option (((List I2) × (Int × Unit)) × (WH × Unit)))) :=
  (fun (x5 : (Unit × Unit)) => (Option.none))
def d7_K2 (x6 : (((WH × ((List I2) × Unit)) × (Int × Unit)) → (Option (((List I2) × (Int × Unit)) × (WH × Unit))))) : (((WH × ((List I2) × Unit)) × (Int × Unit)) → (Option (((List I2) × (Int × Unit)) × (WH × Unit)))) :=
  (fun (x8 : ((WH × ((List I2) × Unit)) × (Int × Unit))) => (x6 ((x8.1.1, (x8.1.2.1, ())), (x8.2.1, ()))))
def d7_K3 (x8 : (((WH × ((List I2) × Unit)) × (Int × Unit)) → (Option (((List I2) × (Int × Unit)) × (WH × Unit))))) : (((WH × ((List I2) × Unit)) × (Int × Unit)) → (Option (((List I2) × (Int × Unit)) × (WH × Unit)))) :=
  (fun (x17 : ((WH × ((List I2) × Unit)) × (Int × Unit))) => (x8 ((x17.1.1, (x17.1.2.1, ())), (x17.2.1, ()))))
def d7_K4 (x18 : (((WH × ((List I2) × ((List Int) × Unit))) × (Int × (Int × I2))) → (Option (((List I2) × (Int × Unit)) × (WH × Unit))))) : (((WH × ((List I2) × ((List Int) × Unit))) × (Int × (Int × I2))) → (Option (((List I2) × (Int × Unit)) × (WH × Unit)))) :=
  (fun (x21 : ((WH × ((List I2) × ((List Int) × Unit))) × (Int × (Int × I2)))) => (x18 ((x21.1.1, (x21.1.2.1, (x21.1.2.2.1, ()))), ((Go.IntKind.wrap Go.IntKind.i64 (x21.2.2.2.2.1 + (1 : Int))), (x21.2.1, (x21.2.2.1, (x21.2.2.2.1, ())))))))
def d7_L5 (x17 : (((WH × ((List I2) × Unit)) × (Int × Unit)) → (Option (((List I2) × (Int × Unit)) × (WH × Unit))))) : ((((WH × ((List I2) × ((List Int) × Unit))) × (Int × (Int × I2))) → (Option (((List I2) × (Int × Unit)) × (WH × Unit)))) → (((WH × ((List I2) × ((List Int) × Unit))) × (Int × (Int × I2))) → (Option (((List I2) × (Int × Unit)) × (WH × Unit))))) :=
  (fun (x18 : (((WH × ((List I2) × ((List Int) × Unit))) × (Int × (Int × I2))) → (Option (((List I2) × (Int × Unit)) × (WH × Unit))))) => (fun (x19 : ((WH × ((List I2) × ((List Int) × Unit))) × (Int × (Int × I2)))) => (lt (Decidable.decide (x19.2.1 < x19.2.2.2.2.1)) fun (x20 : Bool) =>
  (if (x20 = Bool.true) then
  (shr (d7_K4 x18) (fun (x21 : (((WH × ((List I2) × ((List Int) × Unit))) × (Int × (Int × I2))) → (Option (((List I2) × (Int × Unit)) × (WH × Unit))))) => (if (((Decidable.decide ((0 : Int) ≤ x19.2.1)) && (Decidable.decide (x19.2.1 < (((List.length x19.1.2.2.1) : Nat) : Int)))) = Bool.true) then
  (if (((Decidable.decide ((Int.toNat x19.2.1) < (List.length x19.1.2.2.1))) && Bool.true) = Bool.true) then
  (lt (List.getD x19.1.2.2.1 (Int.toNat x19.2.1) (0 : Int)) fun (x22 : Int) =>
  (lt ((x19.2.2.1, (x22, ())) :: ([] : List I2)) fun (x23 : (List I2)) =>
  (if ((Go.Lift.appFits (List.length x19.1.2.1) (List.length x23) (16 : Nat)) = Bool.true) then
  (lt (x19.1.2.1 ++ x23) fun (x24 : (List I2)) =>
  (if ((Option.isSome x19.1.1.2.1) = Bool.true) then
  (x21 (((x19.1.1.1, ((Option.map (Go.Lift.mdel (Go.Lift.Kt.int Go.IntKind.i64) (Go.Lift.Kt.int Go.IntKind.i64) x22) x19.1.1.2.1), x19.1.1.2.2)), (x24, (x19.1.2.2.1, ()))), (x19.2.2.1, (x19.2.2.2.1, (x19.2.2.2.2.1, (x19.2.1, ()))))))
  else (Option.none)))
  else (Option.none))))
  else (Option.none))
  else (Option.none))))
  else (x17 ((x19.1.1, (x19.1.2.1, ())), (x19.2.2.2.1, ())))))))
def d7_L6 (x0 : Nat) : ((((WH × ((List I2) × Unit)) × (Int × Unit)) → (Option (((List I2) × (Int × Unit)) × (WH × Unit)))) → (((WH × ((List I2) × Unit)) × (Int × Unit)) → (Option (((List I2) × (Int × Unit)) × (WH × Unit))))) :=
  (fun (x6 : (((WH × ((List I2) × Unit)) × (Int × Unit)) → (Option (((List I2) × (Int × Unit)) × (WH × Unit))))) => (fun (x7 : ((WH × ((List I2) × Unit)) × (Int × Unit))) => (shr (d7_K2 x6) (fun (x8 : (((WH × ((List I2) × Unit)) × (Int × Unit)) → (Option (((List I2) × (Int × Unit)) × (WH × Unit))))) => (Option.bind (d12 x0 (x7.1.1, ())) fun (x9 : ((Int × (Bool × Unit)) × Unit)) =>
  (lt (Bool.not x9.1.2.1) fun (x10 : Bool) =>
  (lt (Decidable.decide (x9.1.1 > x7.2.1)) fun (x11 : Bool) =>
  (lt (if (x10 = Bool.true) then
  Bool.true
  else x11) fun (x12 : Bool) =>
  (if (x12 = Bool.true) then
  (Option.bind (d23 x0 (x7.1.1, (x7.2.1, ()))) fun (x13 : (Unit × (WH × Unit))) =>
  (Option.some ((x7.1.2.1, ((0 : Int), ())), (x13.2.1, ()))))
  else (Option.bind (d23 x0 (x7.1.1, (x9.1.1, ()))) fun (x13 : (Unit × (WH × Unit))) =>
  (if ((Decidable.decide (((0 : Int) ≤ x13.2.1.1) ∧ ((x13.2.1.1 ≤ (1099511627776 : Int)) ∧ (((0 : Int) ≤ x9.1.1) ∧ (x9.1.1 ≤ (1099511627776 : Int)))))) = Bool.true) then
  (if (((Decidable.decide ((lvl (Int.toNat x13.2.1.1) (Int.toNat x9.1.1)) < (List.length x13.2.1.2.2.1))) && ((Decidable.decide ((dig (Int.toNat x9.1.1) (lvl (Int.toNat x13.2.1.1) (Int.toNat x9.1.1))) < (List.length (List.getD x13.2.1.2.2.1 (lvl (Int.toNat x13.2.1.1) (Int.toNat x9.1.1)) (List.replicate (64 : Nat) (Option.some ([] : List Int))))))) && Bool.true)) = Bool.true) then
  (if ((((Decidable.decide ((lvl (Int.toNat x13.2.1.1) (Int.toNat x9.1.1)) < (List.length x13.2.1.2.2.1))) && ((Decidable.decide ((dig (Int.toNat x9.1.1) (lvl (Int.toNat x13.2.1.1) (Int.toNat x9.1.1))) < (List.length (List.getD x13.2.1.2.2.1 (lvl (Int.toNat x13.2.1.1) (Int.toNat x9.1.1)) (List.replicate (64 : Nat) (Option.some ([] : List Int))))))) && Bool.true)) && (Option.isSome (List.getD (List.getD x13.2.1.2.2.1 (lvl (Int.toNat x13.2.1.1) (Int.toNat x9.1.1)) (List.replicate (64 : Nat) (Option.some ([] : List Int)))) (dig (Int.toNat x9.1.1) (lvl (Int.toNat x13.2.1.1) (Int.toNat x9.1.1))) (Option.some ([] : List Int))))) = Bool.true) then
  (lt (Option.getD (List.getD (List.getD x13.2.1.2.2.1 (lvl (Int.toNat x13.2.1.1) (Int.toNat x9.1.1)) (List.replicate (64 : Nat) (Option.some ([] : List Int)))) (dig (Int.toNat x9.1.1) (lvl (Int.toNat x13.2.1.1) (Int.toNat x9.1.1))) (Option.some ([] : List Int))) ([] : List Int)) fun (x14 : (List Int)) =>
  (lt (List.set x13.2.1.2.2.1 (lvl (Int.toNat x13.2.1.1) (Int.toNat x9.1.1)) (List.set (List.getD x13.2.1.2.2.1 (lvl (Int.toNat x13.2.1.1) (Int.toNat x9.1.1)) (List.replicate (64 : Nat) (Option.some ([] : List Int)))) (dig (Int.toNat x9.1.1) (lvl (Int.toNat x13.2.1.1) (Int.toNat x9.1.1))) (Option.none))) fun (x15 : (List (List (Option (List Int))))) =>
  (if (((Decidable.decide ((lvl (Int.toNat x13.2.1.1) (Int.toNat x9.1.1)) < (List.length x15))) && ((Decidable.decide ((dig (Int.toNat x9.1.1) (lvl (Int.toNat x13.2.1.1) (Int.toNat x9.1.1))) < (List.length (List.getD x15 (lvl (Int.toNat x13.2.1.1) (Int.toNat x9.1.1)) (List.replicate (64 : Nat) (Option.some ([] : List Int))))))) && Bool.true)) = Bool.true) then
  (if (((Decidable.decide ((lvl (Int.toNat x13.2.1.1) (Int.toNat x9.1.1)) < (List.length x15))) && ((Decidable.decide ((dig (Int.toNat x9.1.1) (lvl (Int.toNat x13.2.1.1) (Int.toNat x9.1.1))) < (List.length (List.getD x15 (lvl (Int.toNat x13.2.1.1) (Int.toNat x9.1.1)) (List.replicate (64 : Nat) (Option.some ([] : List Int))))))) && Bool.true)) = Bool.true) then
  (Option.bind (d25 x0 (x14, ())) fun (x16 : (Unit × ((List Int) × Unit))) =>
  (shr (d7_K3 x8) (fun (x17 : (((WH × ((List I2) × Unit)) × (Int × Unit)) → (Option (((List I2) × (Int × Unit)) × (WH × Unit))))) => (loopN (d7_L5 x17) x0 (((x13.2.1.1, (x13.2.1.2.1, ((List.set x15 (lvl (Int.toNat x13.2.1.1) (Int.toNat x9.1.1)) (List.set (List.getD x15 (lvl (Int.toNat x13.2.1.1) (Int.toNat x9.1.1)) (List.replicate (64 : Nat) (Option.some ([] : List Int)))) (dig (Int.toNat x9.1.1) (lvl (Int.toNat x13.2.1.1) (Int.toNat x9.1.1))) (Option.some ([] : List Int)))), x13.2.1.2.2.2))), (x7.1.2.1, (x16.2.1, ()))), ((0 : Int), (x9.1.1, (x7.2.1, ((((List.length x16.2.1) : Nat) : Int), ())))))))))
  else (Option.none))
  else (Option.none))))
  else (Option.none))
  else (Option.none))
  else (Option.none))))))))))))
def d7 : (Nat → ((WH × (Int × Unit)) → (Option (((List I2) × (Int × Unit)) × (WH × Unit))))) :=
  (fun (x0 : Nat) => (fun (x1 : (WH × (Int × Unit))) => (lt (Decidable.decide (x1.2.1 < x1.1.1)) fun (x2 : Bool) =>
  (lt (Decidable.decide (x1.2.1 > (1099511627776 : Int))) fun (x3 : Bool) =>
  (lt (if (x2 = Bool.true) then
  Bool.true
  else x3) fun (x4 : Bool) =>
  (if (x4 = Bool.true) then
  (Option.some ((([] : List I2), ((2 : Int), ())), (x1.1, ())))
  else (shr d7_K1 (fun (x5 : ((Unit × Unit) → (Option (((List I2) × (Int × Unit)) × (WH × Unit))))) => (loopN (d7_L6 x0) x0 ((x1.1, (([] : List I2), ())), (x1.2.1, ())))))))))))
theorem k7 : c_fn Try.prog ⟨[(12, ⟨s12, d12⟩), (23, ⟨s23, d23⟩), (25, ⟨s25, d25⟩)], ks0, [47], [Ytlagcpfboljhnaa.L.slotPf]⟩ Try.f7 s7 h7 = some d7 := by kernel_rfl
/-- bulkhead/bulkheadlaw07.ordered -/
def s8 : Sig := ⟨[((.sl 34 kI2), .val), ((.int .i64), .val), ((.int .i64), .val)], [(.bool, .val)]⟩
 def h8 : Hint := (.seq .leaf
   (.seq (.seq .leaf
   (.block ⟨[], []⟩ true
     (.loop ⟨[], [((7, 0), (.val (.int .i64))), ((0, 0), (.val (.sl 34 kI2))), ((2, 0), (.val (.int .i64))), ((1, 0), (.val (.int .i64)))]⟩
       (.seq (.seq .leaf
       (.cond none
         .leaf
         .leaf))
       (.seq (.block ⟨[], [((0, 0), (.val (.sl 34 kI2))), ((2, 0), (.val (.int .i64))), ((1, 0), (.val (.int .i64))), ((7, 0), (.val (.int .i64)))]⟩ true
         (.seq (.seq .leaf
         (.cond none
           (.seq .leaf
           .leaf)
           .leaf))
         (.seq .leaf
         (.cond none
           (.seq .leaf
           .leaf)
           .leaf))))
       .leaf)))))
   (.seq .leaf
   .leaf)))
def d8_K1 (x3 : ((Unit × (Int × ((List I2) × I2))) → (Option ((Bool × Unit) × Unit)))) : ((Unit × ((List I2) × (Int × I2))) → (Option ((Bool × Unit) × Unit))) :=
  (fun (x7 : (Unit × ((List I2) × (Int × I2)))) => (x3 ((), ((Go.IntKind.wrap Go.IntKind.i64 (x7.2.2.2.2.1 + (1 : Int))), (x7.2.1, (x7.2.2.1, (x7.2.2.2.1, ())))))))
def d8_L2 (x2 : ((Unit × Unit) → (Option ((Bool × Unit) × Unit)))) : (((Unit × (Int × ((List I2) × I2))) → (Option ((Bool × Unit) × Unit))) → ((Unit × (Int × ((List I2) × I2))) → (Option ((Bool × Unit) × Unit)))) :=
  (fun (x3 : ((Unit × (Int × ((List I2) × I2))) → (Option ((Bool × Unit) × Unit)))) => (fun (x4 : (Unit × (Int × ((List I2) × I2)))) => (lt (((List.length x4.2.2.1) : Nat) : Int) fun (x5 : Int) =>
  (lt (Decidable.decide (x4.2.1 < x5)) fun (x6 : Bool) =>
  (if (x6 = Bool.true) then
  (shr (d8_K1 x3) (fun (x7 : ((Unit × ((List I2) × (Int × I2))) → (Option ((Bool × Unit) × Unit)))) => (if (((Decidable.decide ((0 : Int) ≤ x4.2.1)) && (Decidable.decide (x4.2.1 < (((List.length x4.2.2.1) : Nat) : Int)))) = Bool.true) then
  (lt (List.getD x4.2.2.1 (Int.toNat x4.2.1) ((0 : Int), ((0 : Int), ()))).1 fun (x8 : Int) =>
  (lt (Decidable.decide (x8 < x4.2.2.2.2.1)) fun (x9 : Bool) =>
  (if (((Bool.not ((x9 == Bool.false) && Bool.true)) || ((Decidable.decide ((0 : Int) ≤ x4.2.1)) && (Decidable.decide (x4.2.1 < (((List.length x4.2.2.1) : Nat) : Int))))) = Bool.true) then
  (lt (List.getD x4.2.2.1 (Int.toNat x4.2.1) ((0 : Int), ((0 : Int), ()))).1 fun (x10 : Int) =>
  (lt (Decidable.decide (x10 > x4.2.2.2.1)) fun (x11 : Bool) =>
  (lt (if (x9 = Bool.true) then
  Bool.true
  else x11) fun (x12 : Bool) =>
  (if (x12 = Bool.true) then
  (Option.some ((Bool.false, ()), ()))
  else (lt (Decidable.decide (x4.2.1 > (0 : Int))) fun (x13 : Bool) =>
  (lt (Go.IntKind.wrap Go.IntKind.i64 (x4.2.1 - (1 : Int))) fun (x14 : Int) =>
  (if (((Bool.not ((x13 == Bool.true) && Bool.true)) || ((Decidable.decide ((0 : Int) ≤ x14)) && (Decidable.decide (x14 < (((List.length x4.2.2.1) : Nat) : Int))))) = Bool.true) then
  (lt (List.getD x4.2.2.1 (Int.toNat x14) ((0 : Int), ((0 : Int), ()))).1 fun (x15 : Int) =>
  (if (((Bool.not ((x13 == Bool.true) && Bool.true)) || ((Decidable.decide ((0 : Int) ≤ x4.2.1)) && (Decidable.decide (x4.2.1 < (((List.length x4.2.2.1) : Nat) : Int))))) = Bool.true) then
  (lt (List.getD x4.2.2.1 (Int.toNat x4.2.1) ((0 : Int), ((0 : Int), ()))).1 fun (x16 : Int) =>
  (lt (Decidable.decide (x15 > x16)) fun (x17 : Bool) =>
  (lt (Go.IntKind.wrap Go.IntKind.i64 (x4.2.1 - (1 : Int))) fun (x18 : Int) =>
  (if (((Bool.not ((x17 == Bool.false) && ((x13 == Bool.true) && Bool.true))) || ((Decidable.decide ((0 : Int) ≤ x18)) && (Decidable.decide (x18 < (((List.length x4.2.2.1) : Nat) : Int))))) = Bool.true) then
  (lt (List.getD x4.2.2.1 (Int.toNat x18) ((0 : Int), ((0 : Int), ()))).1 fun (x19 : Int) =>
  (if (((Bool.not ((x17 == Bool.false) && ((x13 == Bool.true) && Bool.true))) || ((Decidable.decide ((0 : Int) ≤ x4.2.1)) && (Decidable.decide (x4.2.1 < (((List.length x4.2.2.1) : Nat) : Int))))) = Bool.true) then
  (lt (List.getD x4.2.2.1 (Int.toNat x4.2.1) ((0 : Int), ((0 : Int), ()))).1 fun (x20 : Int) =>
  (lt (x19 == x20) fun (x21 : Bool) =>
  (lt (Go.IntKind.wrap Go.IntKind.i64 (x4.2.1 - (1 : Int))) fun (x22 : Int) =>
  (if (((Bool.not ((x21 == Bool.true) && ((x17 == Bool.false) && ((x13 == Bool.true) && Bool.true)))) || ((Decidable.decide ((0 : Int) ≤ x22)) && (Decidable.decide (x22 < (((List.length x4.2.2.1) : Nat) : Int))))) = Bool.true) then
  (lt (List.getD x4.2.2.1 (Int.toNat x22) ((0 : Int), ((0 : Int), ()))).2.1 fun (x23 : Int) =>
  (if (((Bool.not ((x21 == Bool.true) && ((x17 == Bool.false) && ((x13 == Bool.true) && Bool.true)))) || ((Decidable.decide ((0 : Int) ≤ x4.2.1)) && (Decidable.decide (x4.2.1 < (((List.length x4.2.2.1) : Nat) : Int))))) = Bool.true) then
  (lt (List.getD x4.2.2.1 (Int.toNat x4.2.1) ((0 : Int), ((0 : Int), ()))).2.1 fun (x24 : Int) =>
  (lt (Decidable.decide (x23 ≥ x24)) fun (x25 : Bool) =>
  (lt (if (x21 = Bool.true) then
  x25
  else Bool.false) fun (x26 : Bool) =>
  (lt (if (x17 = Bool.true) then
  Bool.true
  else x26) fun (x27 : Bool) =>
  (lt (if (x13 = Bool.true) then
  x27
  else Bool.false) fun (x28 : Bool) =>
  (if (x28 = Bool.true) then
  (Option.some ((Bool.false, ()), ()))
  else (x7 ((), (x4.2.2.1, (x4.2.2.2.1, (x4.2.2.2.2.1, (x4.2.1, ()))))))))))))
  else (Option.none)))
  else (Option.none)))))
  else (Option.none)))
  else (Option.none)))))
  else (Option.none)))
  else (Option.none))))))))
  else (Option.none))))
  else (Option.none))))
  else (x2 ((), ())))))))
def d8 : (Nat → (((List I2) × I2) → (Option ((Bool × Unit) × Unit)))) :=
  (fun (x0 : Nat) => (fun (x1 : ((List I2) × I2)) => (shr (fun (x2 : (Unit × Unit)) => (Option.some ((Bool.true, ()), ()))) (fun (x2 : ((Unit × Unit) → (Option ((Bool × Unit) × Unit)))) => (loopN (d8_L2 x2) x0 ((), ((0 : Int), (x1.1, (x1.2.2.1, (x1.2.1, ()))))))))))
theorem k8 : c_fn Try.prog ⟨[], ks0, [], [Ytlagcpfboljhnaa.L.slotPf]⟩ Try.f8 s8 h8 = some d8 := by kernel_rfl
/-- (*bulkhead/wheel.Wheel).Len -/
def s9 : Sig := ⟨[((.ptr 64 kWh), .val)], [((.int .i64), .val)]⟩
 def h9 : Hint := (.seq .leaf
   (.seq .leaf
   .leaf))
def d9 : (Nat → ((WH × Unit) → (Option ((Int × Unit) × Unit)))) :=
  (fun (x0 : Nat) => (fun (x1 : (WH × Unit)) => (Option.some (((((List.length (Option.getD x1.1.2.1 ([] : List (Int × Int)))) : Nat) : Int), ()), ()))))
theorem k9 : c_fn Try.prog ⟨[], ks0, [], [Ytlagcpfboljhnaa.L.slotPf]⟩ Try.f9 s9 h9 = some d9 := by kernel_rfl
/-- (*bulkhead/wheel.Wheel).Now -/
def s10 : Sig := ⟨[((.ptr 64 kWh), .val)], [((.int .i64), .val)]⟩
 def h10 : Hint := (.seq .leaf
   (.seq .leaf
   .leaf))
def d10 : (Nat → ((WH × Unit) → (Option ((Int × Unit) × Unit)))) :=
  (fun (x0 : Nat) => (fun (x1 : (WH × Unit)) => (Option.some ((x1.1.1, ()), ()))))
theorem k10 : c_fn Try.prog ⟨[], ks0, [], [Ytlagcpfboljhnaa.L.slotPf]⟩ Try.f10 s10 h10 = some d10 := by kernel_rfl
/-- bulkhead/bulkheadlaw07.may -/
def s16 : Sig := ⟨[(kI2, .val), ((.int .i64), .val)], [(.bool, .val)]⟩
 def h16 : Hint := (.seq .leaf
   (.seq .leaf
   .leaf))
def d16 : (Nat → ((I2 × (Int × Unit)) → (Option ((Bool × Unit) × Unit)))) :=
  (fun (x0 : Nat) => (fun (x1 : (I2 × (Int × Unit))) => (lt (Decidable.decide (x1.1.2.1 ≥ (0 : Int))) fun (x2 : Bool) =>
  (lt (Decidable.decide (x1.1.2.1 ≤ (65535 : Int))) fun (x3 : Bool) =>
  (lt (if (x2 = Bool.true) then
  x3
  else Bool.false) fun (x4 : Bool) =>
  (lt (Decidable.decide (x1.1.1 ≥ x1.2.1)) fun (x5 : Bool) =>
  (lt (if (x4 = Bool.true) then
  x5
  else Bool.false) fun (x6 : Bool) =>
  (lt (Decidable.decide (x1.1.1 < (1099511627776 : Int))) fun (x7 : Bool) =>
  (Option.some (((if (x6 = Bool.true) then
  x7
  else Bool.false), ()), ()))))))))))
theorem k16 : c_fn Try.prog ⟨[], ks0, [], [Ytlagcpfboljhnaa.L.slotPf]⟩ Try.f16 s16 h16 = some d16 := by kernel_rfl
/-- bulkhead/bulkheadlaw07.last -/
def s11 : Sig := ⟨[((.sl 34 kI2), .val), ((.int .i64), .val), ((.int .i64), .val)], [((.int .i64), .val), (.bool, .val)]⟩
 def h11 : Hint := (.seq .leaf
   (.seq .leaf
   (.seq .leaf
   (.seq (.seq .leaf
   (.block ⟨[], [((9, 0), (.val .bool)), ((8, 0), (.val (.int .i64)))]⟩ true
     (.loop ⟨[], [((10, 0), (.val (.int .i64))), ((0, 0), (.val (.sl 34 kI2))), ((1, 0), (.val (.int .i64))), ((2, 0), (.val (.int .i64))), ((9, 0), (.val .bool)), ((8, 0), (.val (.int .i64)))]⟩
       (.seq (.seq .leaf
       (.cond none
         .leaf
         .leaf))
       (.seq (.block ⟨[], [((0, 0), (.val (.sl 34 kI2))), ((1, 0), (.val (.int .i64))), ((2, 0), (.val (.int .i64))), ((9, 0), (.val .bool)), ((8, 0), (.val (.int .i64))), ((10, 0), (.val (.int .i64)))]⟩ true
         (.seq .leaf
         (.cond (some ⟨[], [((0, 0), (.val (.sl 34 kI2))), ((1, 0), (.val (.int .i64))), ((2, 0), (.val (.int .i64))), ((9, 0), (.val .bool)), ((8, 0), (.val (.int .i64))), ((10, 0), (.val (.int .i64)))]⟩)
           (.seq .leaf
           .leaf)
           .leaf)))
       .leaf)))))
   (.seq .leaf
   .leaf)))))
def d11_K1  : ((Unit × (Bool × (Int × Unit))) → (Option ((Int × (Bool × Unit)) × Unit))) :=
  (fun (x2 : (Unit × (Bool × (Int × Unit)))) => (Option.some ((x2.2.2.1, (x2.2.1, ())), ())))
def d11_K2 (x3 : ((Unit × (Int × ((List I2) × (Int × (Int × (Bool × (Int × Unit))))))) → (Option ((Int × (Bool × Unit)) × Unit)))) : ((Unit × ((List I2) × (Int × (Int × (Bool × I2))))) → (Option ((Int × (Bool × Unit)) × Unit))) :=
  (fun (x7 : (Unit × ((List I2) × (Int × (Int × (Bool × I2)))))) => (x3 ((), ((Go.IntKind.wrap Go.IntKind.i64 (x7.2.2.2.2.2.2.1 + (1 : Int))), (x7.2.1, (x7.2.2.1, (x7.2.2.2.1, (x7.2.2.2.2.1, (x7.2.2.2.2.2.1, ())))))))))
def d11_K3 (x7 : ((Unit × ((List I2) × (Int × (Int × (Bool × I2))))) → (Option ((Int × (Bool × Unit)) × Unit)))) : ((Unit × ((List I2) × (Int × (Int × (Bool × I2))))) → (Option ((Int × (Bool × Unit)) × Unit))) :=
  (fun (x13 : (Unit × ((List I2) × (Int × (Int × (Bool × I2)))))) => (x7 ((), (x13.2.1, (x13.2.2.1, (x13.2.2.2.1, (x13.2.2.2.2.1, (x13.2.2.2.2.2.1, (x13.2.2.2.2.2.2.1, ())))))))))
def d11_L4 (x0 : Nat) (x2 : ((Unit × (Bool × (Int × Unit))) → (Option ((Int × (Bool × Unit)) × Unit)))) : (((Unit × (Int × ((List I2) × (Int × (Int × (Bool × (Int × Unit))))))) → (Option ((Int × (Bool × Unit)) × Unit))) → ((Unit × (Int × ((List I2) × (Int × (Int × (Bool × (Int × Unit))))))) → (Option ((Int × (Bool × Unit)) × Unit)))) :=
  (fun (x3 : ((Unit × (Int × ((List I2) × (Int × (Int × (Bool × (Int × Unit))))))) → (Option ((Int × (Bool × Unit)) × Unit)))) => (fun (x4 : (Unit × (Int × ((List I2) × (Int × (Int × (Bool × (Int × Unit)))))))) => (lt (((List.length x4.2.2.1) : Nat) : Int) fun (x5 : Int) =>
  (lt (Decidable.decide (x4.2.1 < x5)) fun (x6 : Bool) =>
  (if (x6 = Bool.true) then
  (shr (d11_K2 x3) (fun (x7 : ((Unit × ((List I2) × (Int × (Int × (Bool × I2))))) → (Option ((Int × (Bool × Unit)) × Unit)))) => (if (((Decidable.decide ((0 : Int) ≤ x4.2.1)) && (Decidable.decide (x4.2.1 < (((List.length x4.2.2.1) : Nat) : Int)))) = Bool.true) then
  (lt (List.getD x4.2.2.1 (Int.toNat x4.2.1) ((0 : Int), ((0 : Int), ()))).2.1 fun (x8 : Int) =>
  (lt (x8 == x4.2.2.2.2.1) fun (x9 : Bool) =>
  (if (((Bool.not ((x9 == Bool.true) && Bool.true)) || ((Decidable.decide ((0 : Int) ≤ x4.2.1)) && (Decidable.decide (x4.2.1 < (((List.length x4.2.2.1) : Nat) : Int))))) = Bool.true) then
  (lt (List.getD x4.2.2.1 (Int.toNat x4.2.1) ((0 : Int), ((0 : Int), ()))) fun (x10 : I2) =>
  (Option.bind (if (((x9 == Bool.true) && Bool.true) = Bool.true) then
  (d16 x0 (x10, (x4.2.2.2.1, ())))
  else (Option.some ((Bool.false, ()), ()))) fun (x11 : ((Bool × Unit) × Unit)) =>
  (lt (if (x9 = Bool.true) then
  x11.1.1
  else Bool.false) fun (x12 : Bool) =>
  (shr (d11_K3 x7) (fun (x13 : ((Unit × ((List I2) × (Int × (Int × (Bool × I2))))) → (Option ((Int × (Bool × Unit)) × Unit)))) => (if (x12 = Bool.true) then
  (if (((Decidable.decide ((0 : Int) ≤ x4.2.1)) && (Decidable.decide (x4.2.1 < (((List.length x4.2.2.1) : Nat) : Int)))) = Bool.true) then
  (x13 ((), (x4.2.2.1, (x4.2.2.2.1, (x4.2.2.2.2.1, (Bool.true, ((List.getD x4.2.2.1 (Int.toNat x4.2.1) ((0 : Int), ((0 : Int), ()))).1, (x4.2.1, ()))))))))
  else (Option.none))
  else (x13 ((), (x4.2.2.1, (x4.2.2.2.1, (x4.2.2.2.2.1, (x4.2.2.2.2.2.1, (x4.2.2.2.2.2.2.1, (x4.2.1, ()))))))))))))))
  else (Option.none))))
  else (Option.none))))
  else (x2 ((), (x4.2.2.2.2.2.1, (x4.2.2.2.2.2.2.1, ())))))))))
def d11 : (Nat → (((List I2) × I2) → (Option ((Int × (Bool × Unit)) × Unit)))) :=
  (fun (x0 : Nat) => (fun (x1 : ((List I2) × I2)) => (shr d11_K1 (fun (x2 : ((Unit × (Bool × (Int × Unit))) → (Option ((Int × (Bool × Unit)) × Unit)))) => (loopN (d11_L4 x0 x2) x0 ((), ((0 : Int), (x1.1, (x1.2.1, (x1.2.2.1, (Bool.false, ((0 : Int), ()))))))))))))
theorem k11 : c_fn Try.prog ⟨[(16, ⟨s16, d16⟩)], ks0, [], [Ytlagcpfboljhnaa.L.slotPf]⟩ Try.f11 s11 h11 = some d11 := by kernel_rfl
/-- bulkhead/bulkheadlaw07.same -/
def s13 : Sig := ⟨[((.sl 34 kI2), .val), ((.sl 34 kI2), .val)], [(.bool, .val)]⟩
 def h13 : Hint := (.seq .leaf
   (.seq (.seq .leaf
   (.cond none
     (.seq .leaf
     .leaf)
     .leaf))
   (.seq (.seq .leaf
   (.block ⟨[], []⟩ true
     (.loop ⟨[], [((5, 0), (.val (.int .i64))), ((1, 0), (.val (.sl 34 kI2))), ((0, 0), (.val (.sl 34 kI2)))]⟩
       (.seq (.seq .leaf
       (.cond none
         .leaf
         .leaf))
       (.seq (.block ⟨[], [((1, 0), (.val (.sl 34 kI2))), ((0, 0), (.val (.sl 34 kI2))), ((5, 0), (.val (.int .i64)))]⟩ true
         (.seq .leaf
         (.cond none
           (.seq .leaf
           .leaf)
           .leaf)))
       .leaf)))))
   (.seq .leaf
   .leaf))))
def d13_K1 (x6 : ((Unit × (Int × ((List I2) × ((List I2) × Unit)))) → (Option ((Bool × Unit) × Unit)))) : ((Unit × ((List I2) × ((List I2) × (Int × Unit)))) → (Option ((Bool × Unit) × Unit))) :=
  (fun (x10 : (Unit × ((List I2) × ((List I2) × (Int × Unit))))) => (x6 ((), ((Go.IntKind.wrap Go.IntKind.i64 (x10.2.2.2.1 + (1 : Int))), (x10.2.1, (x10.2.2.1, ()))))))
def d13_L2 (x5 : ((Unit × Unit) → (Option ((Bool × Unit) × Unit)))) : (((Unit × (Int × ((List I2) × ((List I2) × Unit)))) → (Option ((Bool × Unit) × Unit))) → ((Unit × (Int × ((List I2) × ((List I2) × Unit)))) → (Option ((Bool × Unit) × Unit)))) :=
  (fun (x6 : ((Unit × (Int × ((List I2) × ((List I2) × Unit)))) → (Option ((Bool × Unit) × Unit)))) => (fun (x7 : (Unit × (Int × ((List I2) × ((List I2) × Unit))))) => (lt (((List.length x7.2.2.2.1) : Nat) : Int) fun (x8 : Int) =>
  (lt (Decidable.decide (x7.2.1 < x8)) fun (x9 : Bool) =>
  (if (x9 = Bool.true) then
  (shr (d13_K1 x6) (fun (x10 : ((Unit × ((List I2) × ((List I2) × (Int × Unit)))) → (Option ((Bool × Unit) × Unit)))) => (if (((Decidable.decide ((0 : Int) ≤ x7.2.1)) && (Decidable.decide (x7.2.1 < (((List.length x7.2.2.2.1) : Nat) : Int)))) = Bool.true) then
  (lt (List.getD x7.2.2.2.1 (Int.toNat x7.2.1) ((0 : Int), ((0 : Int), ()))) fun (x11 : I2) =>
  (if (((Decidable.decide ((0 : Int) ≤ x7.2.1)) && (Decidable.decide (x7.2.1 < (((List.length x7.2.2.1) : Nat) : Int)))) = Bool.true) then
  (lt (List.getD x7.2.2.1 (Int.toNat x7.2.1) ((0 : Int), ((0 : Int), ()))) fun (x12 : I2) =>
  (lt (Bool.not ((x11.1 == x12.1) && ((x11.2.1 == x12.2.1) && Bool.true))) fun (x13 : Bool) =>
  (if (x13 = Bool.true) then
  (Option.some ((Bool.false, ()), ()))
  else (x10 ((), (x7.2.2.1, (x7.2.2.2.1, (x7.2.1, ()))))))))
  else (Option.none)))
  else (Option.none))))
  else (x5 ((), ())))))))
def d13 : (Nat → (((List I2) × ((List I2) × Unit)) → (Option ((Bool × Unit) × Unit)))) :=
  (fun (x0 : Nat) => (fun (x1 : ((List I2) × ((List I2) × Unit))) => (lt (((List.length x1.1) : Nat) : Int) fun (x2 : Int) =>
  (lt (((List.length x1.2.1) : Nat) : Int) fun (x3 : Int) =>
  (lt (x2 != x3) fun (x4 : Bool) =>
  (if (x4 = Bool.true) then
  (Option.some ((Bool.false, ()), ()))
  else (shr (fun (x5 : (Unit × Unit)) => (Option.some ((Bool.true, ()), ()))) (fun (x5 : ((Unit × Unit) → (Option ((Bool × Unit) × Unit)))) => (loopN (d13_L2 x5) x0 ((), ((0 : Int), (x1.2.1, (x1.1, ())))))))))))))
theorem k13 : c_fn Try.prog ⟨[], ks0, [], [Ytlagcpfboljhnaa.L.slotPf]⟩ Try.f13 s13 h13 = some d13 := by kernel_rfl
/-- bulkhead/bulkheadlaw07.WheelFires -/
def s3 : Sig := ⟨[((.int .i64), .val), ((.sl 34 kI2), .val), ((.sl 3 (.int .i64)), .val)], [(.bool, .val)]⟩
 def h3 : Hint := (.seq .leaf
   (.seq .leaf
   (.seq .leaf
   (.seq (.seq .leaf
   (.cond none
     (.seq .leaf
     .leaf)
     .leaf))
   (.seq (.seq .leaf
   (.cond none
     (.seq .leaf
     .leaf)
     .leaf))
   (.seq .leaf
   (.seq (.seq .leaf
   (.cond none
     (.seq .leaf
     .leaf)
     .leaf))
   (.seq (.seq .leaf
   (.block ⟨[((.sl 34 kI2), (.ow .sh), (9, 0)), ((.opt true (.ptr 64 kWh)), (.ow (.pr .sh (.pr (.ow .sh) (.pr (.ow (.ow (.ow .sh))) .sh)))), (8, 0))], [((1, 0), (.val (.sl 34 kI2))), ((9, 0), (.own 0)), ((0, 0), (.val (.int .i64))), ((8, 0), (.own 1)), ((2, 0), (.val (.sl 3 (.int .i64))))]⟩ true
     (.loop ⟨[((.sl 34 kI2), (.ow .sh), (9, 0)), ((.opt true (.ptr 64 kWh)), (.ow (.pr .sh (.pr (.ow .sh) (.pr (.ow (.ow (.ow .sh))) .sh)))), (8, 0))], [((11, 0), (.val (.int .i64))), ((9, 0), (.own 0)), ((0, 0), (.val (.int .i64))), ((1, 0), (.val (.sl 34 kI2))), ((8, 0), (.own 1)), ((2, 0), (.val (.sl 3 (.int .i64))))]⟩
       (.seq (.seq .leaf
       (.cond none
         .leaf
         .leaf))
       (.seq (.block ⟨[((.sl 34 kI2), (.ow .sh), (9, 0)), ((.opt true (.ptr 64 kWh)), (.ow (.pr .sh (.pr (.ow .sh) (.pr (.ow (.ow (.ow .sh))) .sh)))), (8, 0))], [((9, 0), (.own 0)), ((0, 0), (.val (.int .i64))), ((1, 0), (.val (.sl 34 kI2))), ((8, 0), (.own 1)), ((2, 0), (.val (.sl 3 (.int .i64)))), ((11, 0), (.val (.int .i64)))]⟩ true
         (.seq .leaf
         (.seq .leaf
         (.cond none
           (.seq .leaf
           .leaf)
           .leaf))))
       .leaf)))))
   (.seq (.seq .leaf
   (.block ⟨[((.sl 34 kI2), (.ow .sh), (9, 0)), ((.opt true (.ptr 64 kWh)), (.ow (.pr .sh (.pr (.ow .sh) (.pr (.ow (.ow (.ow .sh))) .sh)))), (8, 0))], [((9, 0), (.own 0)), ((8, 0), (.own 1)), ((2, 0), (.val (.sl 3 (.int .i64))))]⟩ true
     (.loop ⟨[((.sl 34 kI2), (.ow .sh), (9, 0)), ((.opt true (.ptr 64 kWh)), (.ow (.pr .sh (.pr (.ow .sh) (.pr (.ow (.ow (.ow .sh))) .sh)))), (8, 0))], [((14, 0), (.val (.int .i64))), ((1, 0), (.val (.sl 34 kI2))), ((9, 0), (.own 0)), ((0, 0), (.val (.int .i64))), ((8, 0), (.own 1)), ((2, 0), (.val (.sl 3 (.int .i64))))]⟩
       (.seq (.seq .leaf
       (.cond none
         .leaf
         .leaf))
       (.seq (.block ⟨[((.sl 34 kI2), (.ow .sh), (9, 0)), ((.opt true (.ptr 64 kWh)), (.ow (.pr .sh (.pr (.ow .sh) (.pr (.ow (.ow (.ow .sh))) .sh)))), (8, 0))], [((1, 0), (.val (.sl 34 kI2))), ((9, 0), (.own 0)), ((0, 0), (.val (.int .i64))), ((8, 0), (.own 1)), ((2, 0), (.val (.sl 3 (.int .i64)))), ((14, 0), (.val (.int .i64)))]⟩ true
         (.seq .leaf
         (.seq .leaf
         (.seq (.seq .leaf
         (.block ⟨[((.sl 34 kI2), (.ow .sh), (9, 0)), ((.opt true (.ptr 64 kWh)), (.ow (.pr .sh (.pr (.ow .sh) (.pr (.ow (.ow (.ow .sh))) .sh)))), (8, 0))], [((1, 0), (.val (.sl 34 kI2))), ((9, 0), (.own 0)), ((0, 0), (.val (.int .i64))), ((8, 0), (.own 1)), ((2, 0), (.val (.sl 3 (.int .i64)))), ((14, 0), (.val (.int .i64))), ((17, 0), (.val .bool)), ((16, 0), (.val .bool))]⟩ true
           (.loop ⟨[((.sl 34 kI2), (.ow .sh), (9, 0)), ((.opt true (.ptr 64 kWh)), (.ow (.pr .sh (.pr (.ow .sh) (.pr (.ow (.ow (.ow .sh))) .sh)))), (8, 0))], [((18, 0), (.val (.int .i64))), ((14, 0), (.val (.int .i64))), ((1, 0), (.val (.sl 34 kI2))), ((9, 0), (.own 0)), ((17, 0), (.val .bool)), ((0, 0), (.val (.int .i64))), ((8, 0), (.own 1)), ((2, 0), (.val (.sl 3 (.int .i64)))), ((16, 0), (.val .bool))]⟩
             (.seq (.seq .leaf
             (.cond none
               .leaf
               .leaf))
             (.seq (.block ⟨[((.sl 34 kI2), (.ow .sh), (9, 0)), ((.opt true (.ptr 64 kWh)), (.ow (.pr .sh (.pr (.ow .sh) (.pr (.ow (.ow (.ow .sh))) .sh)))), (8, 0))], [((14, 0), (.val (.int .i64))), ((1, 0), (.val (.sl 34 kI2))), ((9, 0), (.own 0)), ((17, 0), (.val .bool)), ((0, 0), (.val (.int .i64))), ((8, 0), (.own 1)), ((2, 0), (.val (.sl 3 (.int .i64)))), ((16, 0), (.val .bool)), ((18, 0), (.val (.int .i64)))]⟩ true
               .leaf)
             .leaf)))))
         (.seq .leaf
         (.cond none
           (.seq .leaf
           .leaf)
           .leaf))))))
       .leaf)))))
   (.seq .leaf
   (.seq (.seq .leaf
   (.block ⟨[((.sl 34 kI2), (.ow .sh), (9, 0)), ((.sl 34 kI2), (.ow .sh), (19, 0))], [((9, 0), (.own 0)), ((19, 0), (.own 1))]⟩ true
     (.loop ⟨[((.sl 34 kI2), (.ow .sh), (9, 0)), ((.sl 34 kI2), (.ow .sh), (19, 0)), ((.opt true (.ptr 64 kWh)), (.ow (.pr .sh (.pr (.ow .sh) (.pr (.ow (.ow (.ow .sh))) .sh)))), (8, 0))], [((20, 0), (.val (.int .i64))), ((9, 0), (.own 0)), ((19, 0), (.own 1)), ((8, 0), (.own 2)), ((2, 0), (.val (.sl 3 (.int .i64))))]⟩
       (.seq (.seq .leaf
       (.cond none
         .leaf
         .leaf))
       (.seq (.block ⟨[((.sl 34 kI2), (.ow .sh), (9, 0)), ((.sl 34 kI2), (.ow .sh), (19, 0)), ((.opt true (.ptr 64 kWh)), (.ow (.pr .sh (.pr (.ow .sh) (.pr (.ow (.ow (.ow .sh))) .sh)))), (8, 0))], [((9, 0), (.own 0)), ((19, 0), (.own 1)), ((8, 0), (.own 2)), ((2, 0), (.val (.sl 3 (.int .i64)))), ((20, 0), (.val (.int .i64)))]⟩ true
         (.seq .leaf
         (.seq (.seq .leaf
         (.cond (some ⟨[((.sl 34 kI2), (.ow .sh), (9, 0)), ((.opt true (.ptr 64 kWh)), (.ow (.pr .sh (.pr (.ow .sh) (.pr (.ow (.ow (.ow .sh))) .sh)))), (8, 0)), ((.sl 34 kI2), (.ow .sh), (19, 0))], [((9, 0), (.own 0)), ((8, 0), (.own 1)), ((2, 0), (.val (.sl 3 (.int .i64)))), ((20, 0), (.val (.int .i64))), ((19, 0), (.own 2)), ((21, 0), (.val (.int .i64)))]⟩)
           (.seq .leaf
           (.seq .leaf
           (.cond (some ⟨[((.sl 34 kI2), (.ow .sh), (9, 0)), ((.opt true (.ptr 64 kWh)), (.ow (.pr .sh (.pr (.ow .sh) (.pr (.ow (.ow (.ow .sh))) .sh)))), (8, 0)), ((.sl 34 kI2), (.ow .sh), (19, 0))], [((9, 0), (.own 0)), ((8, 0), (.own 1)), ((2, 0), (.val (.sl 3 (.int .i64)))), ((20, 0), (.val (.int .i64))), ((19, 0), (.own 2)), ((21, 0), (.val (.int .i64)))]⟩)
             .leaf
             .leaf)))
           .leaf))
         (.seq .leaf
         (.seq .leaf
         (.seq (.seq .leaf
         (.cond none
           (.seq .leaf
           .leaf)
           .leaf))
         (.seq .leaf
         (.seq .leaf
         (.cond none
           (.seq .leaf
           .leaf)
           .leaf)))))))))
       .leaf)))))
   (.seq .leaf
   .leaf))))))))))))
def d3_K1 (x0 : Nat) : ((((List I2) × ((List I2) × Unit)) × Unit) → (Option ((Bool × Unit) × Unit))) :=
  (fun (x29 : (((List I2) × ((List I2) × Unit)) × Unit)) => (Option.bind (d13 x0 (x29.1.2.1, (x29.1.1, ()))) fun (x30 : ((Bool × Unit) × Unit)) =>
  (Option.some ((x30.1.1, ()), ()))))
def d3_K2 (x30 : ((((List I2) × ((List I2) × ((Option WH) × Unit))) × (Int × ((List Int) × Unit))) → (Option ((Bool × Unit) × Unit)))) : ((((List I2) × ((List I2) × ((Option WH) × Unit))) × ((List Int) × (Int × Unit))) → (Option ((Bool × Unit) × Unit))) :=
  (fun (x34 : (((List I2) × ((List I2) × ((Option WH) × Unit))) × ((List Int) × (Int × Unit)))) => (x30 ((x34.1.1, (x34.1.2.1, (x34.1.2.2.1, ()))), ((Go.IntKind.wrap Go.IntKind.i64 (x34.2.2.1 + (1 : Int))), (x34.2.1, ())))))
def d3_K3 (x0 : Nat) (x34 : ((((List I2) × ((List I2) × ((Option WH) × Unit))) × ((List Int) × (Int × Unit))) → (Option ((Bool × Unit) × Unit)))) : ((((List I2) × ((Option WH) × ((List I2) × Unit))) × ((List Int) × I2)) → (Option ((Bool × Unit) × Unit))) :=
  (fun (x37 : (((List I2) × ((Option WH) × ((List I2) × Unit))) × ((List Int) × I2))) => (Option.bind (if ((Option.isSome x37.1.2.1) = Bool.true) then
  (d12 x0 ((Option.getD x37.1.2.1 ((0 : Int), ((Option.none), ((List.replicate (7 : Nat) (List.replicate (64 : Nat) (Option.some ([] : List Int)))), ())))), ()))
  else (Option.none)) fun (x38 : ((Int × (Bool × Unit)) × Unit)) =>
  (Option.bind (if ((Option.isSome (Option.some (Option.getD x37.1.2.1 ((0 : Int), ((Option.none), ((List.replicate (7 : Nat) (List.replicate (64 : Nat) (Option.some ([] : List Int)))), ())))))) = Bool.true) then
  (d7 x0 ((Option.getD (Option.some (Option.getD x37.1.2.1 ((0 : Int), ((Option.none), ((List.replicate (7 : Nat) (List.replicate (64 : Nat) (Option.some ([] : List Int)))), ()))))) ((0 : Int), ((Option.none), ((List.replicate (7 : Nat) (List.replicate (64 : Nat) (Option.some ([] : List Int)))), ())))), (x37.2.2.2.1, ())))
  else (Option.none)) fun (x39 : (((List I2) × (Int × Unit)) × (WH × Unit))) =>
  (lt (x39.1.2.1 != (0 : Int)) fun (x40 : Bool) =>
  (lt (((List.length x37.1.2.2.1) : Nat) : Int) fun (x41 : Int) =>
  (lt (((List.length x37.1.1) : Nat) : Int) fun (x42 : Int) =>
  (lt (Decidable.decide (x41 < x42)) fun (x43 : Bool) =>
  (lt (Bool.not (x38.1.2.1 == x43)) fun (x44 : Bool) =>
  (lt (if (x40 = Bool.true) then
  Bool.true
  else x44) fun (x45 : Bool) =>
  (lt (((List.length x37.1.2.2.1) : Nat) : Int) fun (x46 : Int) =>
  (if (((Bool.not ((x38.1.2.1 == Bool.true) && ((x45 == Bool.false) && Bool.true))) || ((Decidable.decide ((0 : Int) ≤ x46)) && (Decidable.decide (x46 < (((List.length x37.1.1) : Nat) : Int))))) = Bool.true) then
  (if (((Bool.not ((x38.1.2.1 == Bool.true) && ((x45 == Bool.false) && Bool.true))) || ((Decidable.decide ((Int.toNat x46) < (List.length x37.1.1))) && Bool.true)) = Bool.true) then
  (if (((Bool.not ((x38.1.2.1 == Bool.true) && ((x45 == Bool.false) && Bool.true))) || ((Decidable.decide ((Int.toNat x46) < (List.length x37.1.1))) && Bool.true)) = Bool.true) then
  (lt (List.getD x37.1.1 (Int.toNat x46) ((0 : Int), ((0 : Int), ()))).1 fun (x47 : Int) =>
  (lt (x38.1.1 != x47) fun (x48 : Bool) =>
  (lt (if (x38.1.2.1 = Bool.true) then
  x48
  else Bool.false) fun (x49 : Bool) =>
  (lt (if (x45 = Bool.true) then
  Bool.true
  else x49) fun (x50 : Bool) =>
  (lt (((List.length x39.1.1) : Nat) : Int) fun (x51 : Int) =>
  (lt (Decidable.decide (x51 > (0 : Int))) fun (x52 : Bool) =>
  (if (((Bool.not ((x52 == Bool.true) && ((x50 == Bool.false) && Bool.true))) || ((Decidable.decide ((0 : Int) ≤ (0 : Int))) && (Decidable.decide ((0 : Int) < (((List.length x39.1.1) : Nat) : Int))))) = Bool.true) then
  (if (((Bool.not ((x52 == Bool.true) && ((x50 == Bool.false) && Bool.true))) || ((Decidable.decide ((Int.toNat (0 : Int)) < (List.length x39.1.1))) && Bool.true)) = Bool.true) then
  (if (((Bool.not ((x52 == Bool.true) && ((x50 == Bool.false) && Bool.true))) || ((Decidable.decide ((Int.toNat (0 : Int)) < (List.length x39.1.1))) && Bool.true)) = Bool.true) then
  (lt (List.getD x39.1.1 (Int.toNat (0 : Int)) ((0 : Int), ((0 : Int), ()))).1 fun (x53 : Int) =>
  (lt (x53 != x38.1.1) fun (x54 : Bool) =>
  (lt (if (x52 = Bool.true) then
  x54
  else Bool.false) fun (x55 : Bool) =>
  (lt (if (x50 = Bool.true) then
  Bool.true
  else x55) fun (x56 : Bool) =>
  (if (x56 = Bool.true) then
  (Option.some ((Bool.false, ()), ()))
  else (if ((Go.Lift.appFits (List.length x37.1.2.2.1) (List.length x39.1.1) (16 : Nat)) = Bool.true) then
  (lt (x37.1.2.2.1 ++ x39.1.1) fun (x57 : (List I2)) =>
  (lt (((List.length x57) : Nat) : Int) fun (x58 : Int) =>
  (lt (((List.length x37.1.1) : Nat) : Int) fun (x59 : Int) =>
  (lt (Decidable.decide (x58 > x59)) fun (x60 : Bool) =>
  (if (x60 = Bool.true) then
  (Option.some ((Bool.false, ()), ()))
  else (x34 ((x37.1.1, (x57, ((Option.some x39.2.1), ()))), (x37.2.1, (x37.2.2.1, ())))))))))
  else (Option.none)))))))
  else (Option.none))
  else (Option.none))
  else (Option.none))))))))
  else (Option.none))
  else (Option.none))
  else (Option.none))))))))))))
def d3_K4 (x37 : ((((List I2) × ((Option WH) × ((List I2) × Unit))) × ((List Int) × I2)) → (Option ((Bool × Unit) × Unit)))) : ((((List I2) × ((Option WH) × ((List I2) × Unit))) × ((List Int) × I2)) → (Option ((Bool × Unit) × Unit))) :=
  (fun (x46 : (((List I2) × ((Option WH) × ((List I2) × Unit))) × ((List Int) × I2))) => (x37 ((x46.1.1, (x46.1.2.1, (x46.1.2.2.1, ()))), (x46.2.1, (x46.2.2.1, (x46.2.2.2.1, ()))))))
def d3_L5 (x0 : Nat) (x29 : ((((List I2) × ((List I2) × Unit)) × Unit) → (Option ((Bool × Unit) × Unit)))) : (((((List I2) × ((List I2) × ((Option WH) × Unit))) × (Int × ((List Int) × Unit))) → (Option ((Bool × Unit) × Unit))) → ((((List I2) × ((List I2) × ((Option WH) × Unit))) × (Int × ((List Int) × Unit))) → (Option ((Bool × Unit) × Unit)))) :=
  (fun (x30 : ((((List I2) × ((List I2) × ((Option WH) × Unit))) × (Int × ((List Int) × Unit))) → (Option ((Bool × Unit) × Unit)))) => (fun (x31 : (((List I2) × ((List I2) × ((Option WH) × Unit))) × (Int × ((List Int) × Unit)))) => (lt (((List.length x31.2.2.1) : Nat) : Int) fun (x32 : Int) =>
  (lt (Decidable.decide (x31.2.1 ≤ x32)) fun (x33 : Bool) =>
  (if (x33 = Bool.true) then
  (shr (d3_K2 x30) (fun (x34 : ((((List I2) × ((List I2) × ((Option WH) × Unit))) × ((List Int) × (Int × Unit))) → (Option ((Bool × Unit) × Unit)))) => (lt (((List.length x31.2.2.1) : Nat) : Int) fun (x35 : Int) =>
  (lt (Decidable.decide (x31.2.1 < x35)) fun (x36 : Bool) =>
  (shr (d3_K3 x0 x34) (fun (x37 : ((((List I2) × ((Option WH) × ((List I2) × Unit))) × ((List Int) × I2)) → (Option ((Bool × Unit) × Unit)))) => (if (x36 = Bool.true) then
  (Option.bind (if ((Option.isSome x31.1.2.2.1) = Bool.true) then
  (d10 x0 ((Option.getD x31.1.2.2.1 ((0 : Int), ((Option.none), ((List.replicate (7 : Nat) (List.replicate (64 : Nat) (Option.some ([] : List Int)))), ())))), ()))
  else (Option.none)) fun (x38 : ((Int × Unit) × Unit)) =>
  (if (((Decidable.decide ((0 : Int) ≤ x31.2.1)) && (Decidable.decide (x31.2.1 < (((List.length x31.2.2.1) : Nat) : Int)))) = Bool.true) then
  (lt (List.getD x31.2.2.1 (Int.toNat x31.2.1) (0 : Int)) fun (x39 : Int) =>
  (lt (Decidable.decide (x39 ≥ (0 : Int))) fun (x40 : Bool) =>
  (if (((Bool.not ((x40 == Bool.true) && Bool.true)) || ((Decidable.decide ((0 : Int) ≤ x31.2.1)) && (Decidable.decide (x31.2.1 < (((List.length x31.2.2.1) : Nat) : Int))))) = Bool.true) then
  (lt (List.getD x31.2.2.1 (Int.toNat x31.2.1) (0 : Int)) fun (x41 : Int) =>
  (Option.bind (if (((x40 == Bool.true) && Bool.true) = Bool.true) then
  (if ((Option.isSome (Option.some (Option.getD x31.1.2.2.1 ((0 : Int), ((Option.none), ((List.replicate (7 : Nat) (List.replicate (64 : Nat) (Option.some ([] : List Int)))), ())))))) = Bool.true) then
  (d10 x0 ((Option.getD (Option.some (Option.getD x31.1.2.2.1 ((0 : Int), ((Option.none), ((List.replicate (7 : Nat) (List.replicate (64 : Nat) (Option.some ([] : List Int)))), ()))))) ((0 : Int), ((Option.none), ((List.replicate (7 : Nat) (List.replicate (64 : Nat) (Option.some ([] : List Int)))), ())))), ()))
  else (Option.none))
  else (Option.some (((0 : Int), ()), ()))) fun (x42 : ((Int × Unit) × Unit)) =>
  (lt (Go.IntKind.wrap Go.IntKind.i64 ((1099511627776 : Int) - x42.1.1)) fun (x43 : Int) =>
  (lt (Decidable.decide (x41 ≤ x43)) fun (x44 : Bool) =>
  (lt (if (x40 = Bool.true) then
  x44
  else Bool.false) fun (x45 : Bool) =>
  (shr (d3_K4 x37) (fun (x46 : ((((List I2) × ((Option WH) × ((List I2) × Unit))) × ((List Int) × I2)) → (Option ((Bool × Unit) × Unit)))) => (if (x45 = Bool.true) then
  (Option.bind (if ((Option.isSome (if (((x40 == Bool.true) && Bool.true) = Bool.true) then
  (Option.some (Option.getD (Option.some (Option.getD x31.1.2.2.1 ((0 : Int), ((Option.none), ((List.replicate (7 : Nat) (List.replicate (64 : Nat) (Option.some ([] : List Int)))), ()))))) ((0 : Int), ((Option.none), ((List.replicate (7 : Nat) (List.replicate (64 : Nat) (Option.some ([] : List Int)))), ())))))
  else (Option.some (Option.getD x31.1.2.2.1 ((0 : Int), ((Option.none), ((List.replicate (7 : Nat) (List.replicate (64 : Nat) (Option.some ([] : List Int)))), ()))))))) = Bool.true) then
  (d10 x0 ((Option.getD (if (((x40 == Bool.true) && Bool.true) = Bool.true) then
  (Option.some (Option.getD (Option.some (Option.getD x31.1.2.2.1 ((0 : Int), ((Option.none), ((List.replicate (7 : Nat) (List.replicate (64 : Nat) (Option.some ([] : List Int)))), ()))))) ((0 : Int), ((Option.none), ((List.replicate (7 : Nat) (List.replicate (64 : Nat) (Option.some ([] : List Int)))), ())))))
  else (Option.some (Option.getD x31.1.2.2.1 ((0 : Int), ((Option.none), ((List.replicate (7 : Nat) (List.replicate (64 : Nat) (Option.some ([] : List Int)))), ())))))) ((0 : Int), ((Option.none), ((List.replicate (7 : Nat) (List.replicate (64 : Nat) (Option.some ([] : List Int)))), ())))), ()))
  else (Option.none)) fun (x47 : ((Int × Unit) × Unit)) =>
  (if (((Decidable.decide ((0 : Int) ≤ x31.2.1)) && (Decidable.decide (x31.2.1 < (((List.length x31.2.2.1) : Nat) : Int)))) = Bool.true) then
  (lt (List.getD x31.2.2.1 (Int.toNat x31.2.1) (0 : Int)) fun (x48 : Int) =>
  (lt (Go.IntKind.wrap Go.IntKind.i64 (x47.1.1 + x48)) fun (x49 : Int) =>
  (x46 ((x31.1.1, ((Option.some (Option.getD (if (((x40 == Bool.true) && Bool.true) = Bool.true) then
  (Option.some (Option.getD (Option.some (Option.getD x31.1.2.2.1 ((0 : Int), ((Option.none), ((List.replicate (7 : Nat) (List.replicate (64 : Nat) (Option.some ([] : List Int)))), ()))))) ((0 : Int), ((Option.none), ((List.replicate (7 : Nat) (List.replicate (64 : Nat) (Option.some ([] : List Int)))), ())))))
  else (Option.some (Option.getD x31.1.2.2.1 ((0 : Int), ((Option.none), ((List.replicate (7 : Nat) (List.replicate (64 : Nat) (Option.some ([] : List Int)))), ())))))) ((0 : Int), ((Option.none), ((List.replicate (7 : Nat) (List.replicate (64 : Nat) (Option.some ([] : List Int)))), ()))))), (x31.1.2.1, ()))), (x31.2.2.1, (x31.2.1, (x49, ())))))))
  else (Option.none)))
  else (x46 ((x31.1.1, ((if (((x40 == Bool.true) && Bool.true) = Bool.true) then
  (Option.some (Option.getD (Option.some (Option.getD x31.1.2.2.1 ((0 : Int), ((Option.none), ((List.replicate (7 : Nat) (List.replicate (64 : Nat) (Option.some ([] : List Int)))), ()))))) ((0 : Int), ((Option.none), ((List.replicate (7 : Nat) (List.replicate (64 : Nat) (Option.some ([] : List Int)))), ())))))
  else (Option.some (Option.getD x31.1.2.2.1 ((0 : Int), ((Option.none), ((List.replicate (7 : Nat) (List.replicate (64 : Nat) (Option.some ([] : List Int)))), ())))))), (x31.1.2.1, ()))), (x31.2.2.1, (x31.2.1, (x38.1.1, ())))))))))))))
  else (Option.none))))
  else (Option.none)))
  else (x37 ((x31.1.1, (x31.1.2.2.1, (x31.1.2.1, ()))), (x31.2.2.1, (x31.2.1, ((1099511627776 : Int), ()))))))))))))
  else (x29 ((x31.1.1, (x31.1.2.1, ())), ())))))))
def d3_K6 (x0 : Nat) : ((((List I2) × ((Option WH) × Unit)) × ((List Int) × Unit)) → (Option ((Bool × Unit) × Unit))) :=
  (fun (x28 : (((List I2) × ((Option WH) × Unit)) × ((List Int) × Unit))) => (shr (d3_K1 x0) (fun (x29 : ((((List I2) × ((List I2) × Unit)) × Unit) → (Option ((Bool × Unit) × Unit)))) => (loopN (d3_L5 x0 x29) x0 ((x28.1.1, (([] : List I2), (x28.1.2.1, ()))), ((0 : Int), (x28.2.1, ())))))))
def d3_K7 (x29 : ((((List I2) × ((Option WH) × Unit)) × (Int × ((List I2) × (Int × ((List Int) × Unit))))) → (Option ((Bool × Unit) × Unit)))) : ((((List I2) × ((Option WH) × Unit)) × ((List I2) × (Int × ((List Int) × (Int × Unit))))) → (Option ((Bool × Unit) × Unit))) :=
  (fun (x33 : (((List I2) × ((Option WH) × Unit)) × ((List I2) × (Int × ((List Int) × (Int × Unit)))))) => (x29 ((x33.1.1, (x33.1.2.1, ())), ((Go.IntKind.wrap Go.IntKind.i64 (x33.2.2.2.2.1 + (1 : Int))), (x33.2.1, (x33.2.2.1, (x33.2.2.2.1, ())))))))
def d3_K8 (x33 : ((((List I2) × ((Option WH) × Unit)) × ((List I2) × (Int × ((List Int) × (Int × Unit))))) → (Option ((Bool × Unit) × Unit)))) : ((((List I2) × ((Option WH) × Unit)) × ((List I2) × (Int × ((List Int) × (Int × (Bool × (Bool × Unit))))))) → (Option ((Bool × Unit) × Unit))) :=
  (fun (x35 : (((List I2) × ((Option WH) × Unit)) × ((List I2) × (Int × ((List Int) × (Int × (Bool × (Bool × Unit)))))))) => (lt (Bool.not (x35.2.2.2.2.2.2.1 == x35.2.2.2.2.2.1)) fun (x36 : Bool) =>
  (if (x36 = Bool.true) then
  (Option.some ((Bool.false, ()), ()))
  else (x33 ((x35.1.1, (x35.1.2.1, ())), (x35.2.1, (x35.2.2.1, (x35.2.2.2.1, (x35.2.2.2.2.1, ())))))))))
def d3_K9 (x36 : ((((List I2) × ((Option WH) × Unit)) × (Int × (Int × ((List I2) × (Bool × (Int × ((List Int) × (Bool × Unit)))))))) → (Option ((Bool × Unit) × Unit)))) : ((((List I2) × ((Option WH) × Unit)) × (Int × ((List I2) × (Bool × (Int × ((List Int) × (Bool × (Int × Unit)))))))) → (Option ((Bool × Unit) × Unit))) :=
  (fun (x40 : (((List I2) × ((Option WH) × Unit)) × (Int × ((List I2) × (Bool × (Int × ((List Int) × (Bool × (Int × Unit))))))))) => (x36 ((x40.1.1, (x40.1.2.1, ())), ((Go.IntKind.wrap Go.IntKind.i64 (x40.2.2.2.2.2.2.2.1 + (1 : Int))), (x40.2.1, (x40.2.2.1, (x40.2.2.2.1, (x40.2.2.2.2.1, (x40.2.2.2.2.2.1, (x40.2.2.2.2.2.2.1, ()))))))))))
def d3_L10 (x35 : ((((List I2) × ((Option WH) × Unit)) × ((List I2) × (Int × ((List Int) × (Int × (Bool × (Bool × Unit))))))) → (Option ((Bool × Unit) × Unit)))) : (((((List I2) × ((Option WH) × Unit)) × (Int × (Int × ((List I2) × (Bool × (Int × ((List Int) × (Bool × Unit)))))))) → (Option ((Bool × Unit) × Unit))) → ((((List I2) × ((Option WH) × Unit)) × (Int × (Int × ((List I2) × (Bool × (Int × ((List Int) × (Bool × Unit)))))))) → (Option ((Bool × Unit) × Unit)))) :=
  (fun (x36 : ((((List I2) × ((Option WH) × Unit)) × (Int × (Int × ((List I2) × (Bool × (Int × ((List Int) × (Bool × Unit)))))))) → (Option ((Bool × Unit) × Unit)))) => (fun (x37 : (((List I2) × ((Option WH) × Unit)) × (Int × (Int × ((List I2) × (Bool × (Int × ((List Int) × (Bool × Unit))))))))) => (lt (((List.length x37.1.1) : Nat) : Int) fun (x38 : Int) =>
  (lt (Decidable.decide (x37.2.1 < x38)) fun (x39 : Bool) =>
  (if (x39 = Bool.true) then
  (shr (d3_K9 x36) (fun (x40 : ((((List I2) × ((Option WH) × Unit)) × (Int × ((List I2) × (Bool × (Int × ((List Int) × (Bool × (Int × Unit)))))))) → (Option ((Bool × Unit) × Unit)))) => (if (((Bool.not ((x37.2.2.2.2.1 == Bool.false) && Bool.true)) || ((Decidable.decide ((0 : Int) ≤ x37.2.1)) && (Decidable.decide (x37.2.1 < (((List.length x37.1.1) : Nat) : Int))))) = Bool.true) then
  (if (((Bool.not ((x37.2.2.2.2.1 == Bool.false) && Bool.true)) || ((Decidable.decide ((Int.toNat x37.2.1) < (List.length x37.1.1))) && Bool.true)) = Bool.true) then
  (if (((Bool.not ((x37.2.2.2.2.1 == Bool.false) && Bool.true)) || ((Decidable.decide ((Int.toNat x37.2.1) < (List.length x37.1.1))) && Bool.true)) = Bool.true) then
  (lt (List.getD x37.1.1 (Int.toNat x37.2.1) ((0 : Int), ((0 : Int), ()))).2.1 fun (x41 : Int) =>
  (if (((Bool.not ((x37.2.2.2.2.1 == Bool.false) && Bool.true)) || ((Decidable.decide ((0 : Int) ≤ x37.2.2.1)) && (Decidable.decide (x37.2.2.1 < (((List.length x37.2.2.2.1) : Nat) : Int))))) = Bool.true) then
  (lt (List.getD x37.2.2.2.1 (Int.toNat x37.2.2.1) ((0 : Int), ((0 : Int), ()))).2.1 fun (x42 : Int) =>
  (lt (x41 == x42) fun (x43 : Bool) =>
  (x40 ((x37.1.1, (x37.1.2.1, ())), (x37.2.2.1, (x37.2.2.2.1, ((if (x37.2.2.2.2.1 = Bool.true) then
  Bool.true
  else x43), (x37.2.2.2.2.2.1, (x37.2.2.2.2.2.2.1, (x37.2.2.2.2.2.2.2.1, (x37.2.1, ())))))))))))
  else (Option.none)))
  else (Option.none))
  else (Option.none))
  else (Option.none))))
  else (x35 ((x37.1.1, (x37.1.2.1, ())), (x37.2.2.2.1, (x37.2.2.2.2.2.1, (x37.2.2.2.2.2.2.1, (x37.2.2.1, (x37.2.2.2.2.1, (x37.2.2.2.2.2.2.2.1, ())))))))))))))
def d3_L11 (x0 : Nat) (x28 : ((((List I2) × ((Option WH) × Unit)) × ((List Int) × Unit)) → (Option ((Bool × Unit) × Unit)))) : (((((List I2) × ((Option WH) × Unit)) × (Int × ((List I2) × (Int × ((List Int) × Unit))))) → (Option ((Bool × Unit) × Unit))) → ((((List I2) × ((Option WH) × Unit)) × (Int × ((List I2) × (Int × ((List Int) × Unit))))) → (Option ((Bool × Unit) × Unit)))) :=
  (fun (x29 : ((((List I2) × ((Option WH) × Unit)) × (Int × ((List I2) × (Int × ((List Int) × Unit))))) → (Option ((Bool × Unit) × Unit)))) => (fun (x30 : (((List I2) × ((Option WH) × Unit)) × (Int × ((List I2) × (Int × ((List Int) × Unit)))))) => (lt (((List.length x30.2.2.1) : Nat) : Int) fun (x31 : Int) =>
  (lt (Decidable.decide (x30.2.1 < x31)) fun (x32 : Bool) =>
  (if (x32 = Bool.true) then
  (shr (d3_K7 x29) (fun (x33 : ((((List I2) × ((Option WH) × Unit)) × ((List I2) × (Int × ((List Int) × (Int × Unit))))) → (Option ((Bool × Unit) × Unit)))) => (if (((Decidable.decide ((0 : Int) ≤ x30.2.1)) && (Decidable.decide (x30.2.1 < (((List.length x30.2.2.1) : Nat) : Int)))) = Bool.true) then
  (Option.bind (d11 x0 (x30.2.2.1, (x30.2.2.2.1, ((List.getD x30.2.2.1 (Int.toNat x30.2.1) ((0 : Int), ((0 : Int), ()))).2.1, ())))) fun (x34 : ((Int × (Bool × Unit)) × Unit)) =>
  (shr (d3_K8 x33) (fun (x35 : ((((List I2) × ((Option WH) × Unit)) × ((List I2) × (Int × ((List Int) × (Int × (Bool × (Bool × Unit))))))) → (Option ((Bool × Unit) × Unit)))) => (loopN (d3_L10 x35) x0 ((x30.1.1, (x30.1.2.1, ())), ((0 : Int), (x30.2.1, (x30.2.2.1, (Bool.false, (x30.2.2.2.1, (x30.2.2.2.2.1, (x34.1.2.1, ()))))))))))))
  else (Option.none))))
  else (x28 ((x30.1.1, (x30.1.2.1, ())), (x30.2.2.2.2.1, ()))))))))
def d3_K12 (x0 : Nat) : ((((List I2) × ((Option WH) × Unit)) × ((List I2) × (Int × ((List Int) × Unit)))) → (Option ((Bool × Unit) × Unit))) :=
  (fun (x27 : (((List I2) × ((Option WH) × Unit)) × ((List I2) × (Int × ((List Int) × Unit))))) => (shr (d3_K6 x0) (fun (x28 : ((((List I2) × ((Option WH) × Unit)) × ((List Int) × Unit)) → (Option ((Bool × Unit) × Unit)))) => (loopN (d3_L11 x0 x28) x0 ((x27.1.1, (x27.1.2.1, ())), ((0 : Int), (x27.2.1, (x27.2.2.1, (x27.2.2.2.1, ())))))))))
def d3_K13 (x28 : ((((List I2) × ((Option WH) × Unit)) × (Int × (Int × ((List I2) × ((List Int) × Unit))))) → (Option ((Bool × Unit) × Unit)))) : ((((List I2) × ((Option WH) × Unit)) × (Int × ((List I2) × ((List Int) × (Int × Unit))))) → (Option ((Bool × Unit) × Unit))) :=
  (fun (x32 : (((List I2) × ((Option WH) × Unit)) × (Int × ((List I2) × ((List Int) × (Int × Unit)))))) => (x28 ((x32.1.1, (x32.1.2.1, ())), ((Go.IntKind.wrap Go.IntKind.i64 (x32.2.2.2.2.1 + (1 : Int))), (x32.2.1, (x32.2.2.1, (x32.2.2.2.1, ())))))))
def d3_L14 (x0 : Nat) (x27 : ((((List I2) × ((Option WH) × Unit)) × ((List I2) × (Int × ((List Int) × Unit)))) → (Option ((Bool × Unit) × Unit)))) : (((((List I2) × ((Option WH) × Unit)) × (Int × (Int × ((List I2) × ((List Int) × Unit))))) → (Option ((Bool × Unit) × Unit))) → ((((List I2) × ((Option WH) × Unit)) × (Int × (Int × ((List I2) × ((List Int) × Unit))))) → (Option ((Bool × Unit) × Unit)))) :=
  (fun (x28 : ((((List I2) × ((Option WH) × Unit)) × (Int × (Int × ((List I2) × ((List Int) × Unit))))) → (Option ((Bool × Unit) × Unit)))) => (fun (x29 : (((List I2) × ((Option WH) × Unit)) × (Int × (Int × ((List I2) × ((List Int) × Unit)))))) => (lt (((List.length x29.1.1) : Nat) : Int) fun (x30 : Int) =>
  (lt (Decidable.decide (x29.2.1 < x30)) fun (x31 : Bool) =>
  (if (x31 = Bool.true) then
  (shr (d3_K13 x28) (fun (x32 : ((((List I2) × ((Option WH) × Unit)) × (Int × ((List I2) × ((List Int) × (Int × Unit))))) → (Option ((Bool × Unit) × Unit)))) => (if (((Decidable.decide ((0 : Int) ≤ x29.2.1)) && (Decidable.decide (x29.2.1 < (((List.length x29.1.1) : Nat) : Int)))) = Bool.true) then
  (if (((Decidable.decide ((Int.toNat x29.2.1) < (List.length x29.1.1))) && Bool.true) = Bool.true) then
  (if (((Decidable.decide ((Int.toNat x29.2.1) < (List.length x29.1.1))) && Bool.true) = Bool.true) then
  (lt (List.getD x29.1.1 (Int.toNat x29.2.1) ((0 : Int), ((0 : Int), ()))).2.1 fun (x33 : Int) =>
  (Option.bind (d11 x0 (x29.2.2.2.1, (x29.2.2.1, (x33, ())))) fun (x34 : ((Int × (Bool × Unit)) × Unit)) =>
  (lt (Bool.not x34.1.2.1) fun (x35 : Bool) =>
  (if (((Bool.not ((x35 == Bool.false) && Bool.true)) || ((Decidable.decide ((0 : Int) ≤ x29.2.1)) && (Decidable.decide (x29.2.1 < (((List.length x29.1.1) : Nat) : Int))))) = Bool.true) then
  (if (((Bool.not ((x35 == Bool.false) && Bool.true)) || ((Decidable.decide ((Int.toNat x29.2.1) < (List.length x29.1.1))) && Bool.true)) = Bool.true) then
  (if (((Bool.not ((x35 == Bool.false) && Bool.true)) || ((Decidable.decide ((Int.toNat x29.2.1) < (List.length x29.1.1))) && Bool.true)) = Bool.true) then
  (lt (List.getD x29.1.1 (Int.toNat x29.2.1) ((0 : Int), ((0 : Int), ()))).1 fun (x36 : Int) =>
  (lt (x34.1.1 != x36) fun (x37 : Bool) =>
  (lt (if (x35 = Bool.true) then
  Bool.true
  else x37) fun (x38 : Bool) =>
  (if (x38 = Bool.true) then
  (Option.some ((Bool.false, ()), ()))
  else (x32 ((x29.1.1, (x29.1.2.1, ())), (x29.2.2.1, (x29.2.2.2.1, (x29.2.2.2.2.1, (x29.2.1, ()))))))))))
  else (Option.none))
  else (Option.none))
  else (Option.none)))))
  else (Option.none))
  else (Option.none))
  else (Option.none))))
  else (x27 ((x29.1.1, (x29.1.2.1, ())), (x29.2.2.2.1, (x29.2.2.1, (x29.2.2.2.2.1, ()))))))))))
def d3 : (Nat → ((Int × ((List I2) × ((List Int) × Unit))) → (Option ((Bool × Unit) × Unit)))) :=
  (fun (x0 : Nat) => (fun (x1 : (Int × ((List I2) × ((List Int) × Unit)))) => (Option.bind (d6 x0 (x1.1, (x1.2.1, ()))) fun (x2 : (((Option WH) × Unit) × Unit)) =>
  (Option.bind (d6 x0 (x1.1, (x1.2.1, ()))) fun (x3 : (((Option WH) × Unit) × Unit)) =>
  (lt (Decidable.decide (x1.1 < (0 : Int))) fun (x4 : Bool) =>
  (lt (Decidable.decide (x1.1 > (1099511627776 : Int))) fun (x5 : Bool) =>
  (lt (if (x4 = Bool.true) then
  Bool.true
  else x5) fun (x6 : Bool) =>
  (lt (((List.length x1.2.1) : Nat) : Int) fun (x7 : Int) =>
  (lt (Decidable.decide (x7 > (3000 : Int))) fun (x8 : Bool) =>
  (lt (if (x6 = Bool.true) then
  Bool.true
  else x8) fun (x9 : Bool) =>
  (lt (((List.length x1.2.2.1) : Nat) : Int) fun (x10 : Int) =>
  (lt (Decidable.decide (x10 > (3000 : Int))) fun (x11 : Bool) =>
  (lt (if (x9 = Bool.true) then
  Bool.true
  else x11) fun (x12 : Bool) =>
  (if (x12 = Bool.true) then
  (lt (Option.isNone x2.1.1) fun (x13 : Bool) =>
  (lt (Decidable.decide (x1.1 < (0 : Int))) fun (x14 : Bool) =>
  (lt (Decidable.decide (x1.1 > (1099511627776 : Int))) fun (x15 : Bool) =>
  (Option.some (((x13 == (if (x14 = Bool.true) then
  Bool.true
  else x15)), ()), ())))))
  else (lt (Option.isNone x2.1.1) fun (x13 : Bool) =>
  (lt (Option.isNone x3.1.1) fun (x14 : Bool) =>
  (lt (if (x13 = Bool.true) then
  Bool.true
  else x14) fun (x15 : Bool) =>
  (if (x15 = Bool.true) then
  (Option.some ((Bool.false, ()), ()))
  else (Option.bind (if ((Option.isSome x2.1.1) = Bool.true) then
  (d7 x0 ((Option.getD x2.1.1 ((0 : Int), ((Option.none), ((List.replicate (7 : Nat) (List.replicate (64 : Nat) (Option.some ([] : List Int)))), ())))), ((1099511627776 : Int), ())))
  else (Option.none)) fun (x16 : (((List I2) × (Int × Unit)) × (WH × Unit))) =>
  (lt (x16.1.2.1 != (0 : Int)) fun (x17 : Bool) =>
  (Option.bind (if (((x17 == Bool.false) && Bool.true) = Bool.true) then
  (d8 x0 (x16.1.1, (x1.1, ((1099511627775 : Int), ()))))
  else (Option.some ((Bool.false, ()), ()))) fun (x18 : ((Bool × Unit) × Unit)) =>
  (lt (Bool.not x18.1.1) fun (x19 : Bool) =>
  (lt (if (x17 = Bool.true) then
  Bool.true
  else x19) fun (x20 : Bool) =>
  (Option.bind (if (((x20 == Bool.false) && Bool.true) = Bool.true) then
  (if ((Option.isSome (Option.some x16.2.1)) = Bool.true) then
  (d9 x0 ((Option.getD (Option.some x16.2.1) ((0 : Int), ((Option.none), ((List.replicate (7 : Nat) (List.replicate (64 : Nat) (Option.some ([] : List Int)))), ())))), ()))
  else (Option.none))
  else (Option.some (((0 : Int), ()), ()))) fun (x21 : ((Int × Unit) × Unit)) =>
  (lt (x21.1.1 != (0 : Int)) fun (x22 : Bool) =>
  (lt (if (x20 = Bool.true) then
  Bool.true
  else x22) fun (x23 : Bool) =>
  (Option.bind (if (((x23 == Bool.false) && Bool.true) = Bool.true) then
  (if ((Option.isSome (if (((x20 == Bool.false) && Bool.true) = Bool.true) then
  (Option.some (Option.getD (Option.some x16.2.1) ((0 : Int), ((Option.none), ((List.replicate (7 : Nat) (List.replicate (64 : Nat) (Option.some ([] : List Int)))), ())))))
  else (Option.some x16.2.1))) = Bool.true) then
  (d10 x0 ((Option.getD (if (((x20 == Bool.false) && Bool.true) = Bool.true) then
  (Option.some (Option.getD (Option.some x16.2.1) ((0 : Int), ((Option.none), ((List.replicate (7 : Nat) (List.replicate (64 : Nat) (Option.some ([] : List Int)))), ())))))
  else (Option.some x16.2.1)) ((0 : Int), ((Option.none), ((List.replicate (7 : Nat) (List.replicate (64 : Nat) (Option.some ([] : List Int)))), ())))), ()))
  else (Option.none))
  else (Option.some (((0 : Int), ()), ()))) fun (x24 : ((Int × Unit) × Unit)) =>
  (lt (x24.1.1 != (1099511627776 : Int)) fun (x25 : Bool) =>
  (lt (if (x23 = Bool.true) then
  Bool.true
  else x25) fun (x26 : Bool) =>
  (if (x26 = Bool.true) then
  (Option.some ((Bool.false, ()), ()))
  else (shr (d3_K12 x0) (fun (x27 : ((((List I2) × ((Option WH) × Unit)) × ((List I2) × (Int × ((List Int) × Unit)))) → (Option ((Bool × Unit) × Unit)))) => (loopN (d3_L14 x0 x27) x0 ((x16.1.1, (x3.1.1, ())), ((0 : Int), (x1.1, (x1.2.1, (x1.2.2.1, ()))))))))))))))))))))))))))))))))))))))
theorem k3 : c_fn Try.prog ⟨[(6, ⟨s6, d6⟩), (7, ⟨s7, d7⟩), (8, ⟨s8, d8⟩), (9, ⟨s9, d9⟩), (10, ⟨s10, d10⟩), (11, ⟨s11, d11⟩), (12, ⟨s12, d12⟩), (13, ⟨s13, d13⟩)], ksN, [], [Ytlagcpfboljhnaa.L.slotPf]⟩ Try.f3 s3 h3 = some d3 := by kernel_rfl
/-- (*bulkhead/wheel.Wheel).When -/
def s14 : Sig := ⟨[((.ptr 64 kWh), .val), ((.int .i64), .val)], [((.int .i64), .val), (.bool, .val)]⟩
 def h14 : Hint := (.seq .leaf
   (.seq .leaf
   (.seq .leaf
   .leaf)))
def d14 : (Nat → ((WH × (Int × Unit)) → (Option ((Int × (Bool × Unit)) × Unit)))) :=
  (fun (x0 : Nat) => (fun (x1 : (WH × (Int × Unit))) => (Option.some (((Option.getD (Go.Lift.mget (Go.Lift.Kt.int Go.IntKind.i64) (Go.Lift.Kt.int Go.IntKind.i64) x1.2.1 x1.1.2.1) (0 : Int)), ((Option.isSome (Go.Lift.mget (Go.Lift.Kt.int Go.IntKind.i64) (Go.Lift.Kt.int Go.IntKind.i64) x1.2.1 x1.1.2.1)), ())), ()))))
theorem k14 : c_fn Try.prog ⟨[], ks0, [], [Ytlagcpfboljhnaa.L.slotPf]⟩ Try.f14 s14 h14 = some d14 := by kernel_rfl
/-- bulkhead/bulkheadlaw07.WheelForgets -/
def s4 : Sig := ⟨[((.int .i64), .val), ((.sl 34 kI2), .val), ((.int .i64), .val), ((.int .i64), .val), (.bool, .val)], [(.bool, .val)]⟩
 def h4 : Hint := (.seq .leaf
   (.seq .leaf
   (.seq .leaf
   (.seq (.seq .leaf
   (.cond none
     (.seq .leaf
     .leaf)
     .leaf))
   (.seq .leaf
   (.seq .leaf
   (.seq (.seq .leaf
   (.cond (some ⟨[((.opt true (.ptr 64 kWh)), (.ow (.pr .sh (.pr (.ow .sh) (.pr (.ow (.ow (.ow .sh))) .sh)))), (12, 0)), ((.opt true (.ptr 64 kWh)), (.ow (.pr .sh (.pr (.ow .sh) (.pr (.ow (.ow (.ow .sh))) .sh)))), (11, 0))], [((3, 0), (.val (.int .i64))), ((4, 0), (.val .bool)), ((2, 0), (.val (.int .i64))), ((15, 0), (.val (.int .i64))), ((12, 0), (.own 0)), ((11, 0), (.own 1))]⟩)
     (.seq .leaf
     (.seq (.seq .leaf
     (.cond none
       (.seq .leaf
       .leaf)
       .leaf))
     (.seq .leaf
     (.cond none
       (.seq .leaf
       (.seq .leaf
       .leaf))
       .leaf))))
     (.seq .leaf
     (.cond none
       (.seq .leaf
       .leaf)
       .leaf))))
   (.seq .leaf
   (.seq .leaf
   (.seq .leaf
   (.seq .leaf
   (.seq (.seq .leaf
   (.block ⟨[((.sl 34 kI2), (.ow .sh), (21, 0))], [((23, 0), (.val (.int .i64))), ((4, 0), (.val .bool)), ((24, 0), (.val (.int .i64))), ((15, 0), (.val (.int .i64))), ((21, 0), (.own 0)), ((2, 0), (.val (.int .i64)))]⟩ true
     (.loop ⟨[((.sl 34 kI2), (.ow .sh), (19, 0)), ((.sl 34 kI2), (.ow .sh), (21, 0))], [((25, 0), (.val (.int .i64))), ((24, 0), (.val (.int .i64))), ((3, 0), (.val (.int .i64))), ((19, 0), (.own 0)), ((4, 0), (.val .bool)), ((23, 0), (.val (.int .i64))), ((21, 0), (.own 1)), ((2, 0), (.val (.int .i64))), ((15, 0), (.val (.int .i64)))]⟩
       (.seq (.seq .leaf
       (.cond none
         .leaf
         .leaf))
       (.seq (.block ⟨[((.sl 34 kI2), (.ow .sh), (19, 0)), ((.sl 34 kI2), (.ow .sh), (21, 0))], [((24, 0), (.val (.int .i64))), ((3, 0), (.val (.int .i64))), ((19, 0), (.own 0)), ((4, 0), (.val .bool)), ((23, 0), (.val (.int .i64))), ((21, 0), (.own 1)), ((2, 0), (.val (.int .i64))), ((15, 0), (.val (.int .i64))), ((25, 0), (.val (.int .i64)))]⟩ true
         (.seq (.seq .leaf
         (.cond none
           (.seq (.seq .leaf
           (.cond none
             (.seq .leaf
             .leaf)
             .leaf))
           (.seq .leaf
           .leaf))
           .leaf))
         (.seq (.block ⟨[((.sl 34 kI2), (.ow .sh), (19, 0)), ((.sl 34 kI2), (.ow .sh), (21, 0))], [((24, 0), (.val (.int .i64))), ((3, 0), (.val (.int .i64))), ((19, 0), (.own 0)), ((4, 0), (.val .bool)), ((21, 0), (.own 1)), ((2, 0), (.val (.int .i64))), ((15, 0), (.val (.int .i64))), ((25, 0), (.val (.int .i64))), ((23, 0), (.val (.int .i64)))]⟩ true
           (.loop ⟨[((.sl 34 kI2), (.ow .sh), (19, 0)), ((.sl 34 kI2), (.ow .sh), (21, 0))], [((23, 0), (.val (.int .i64))), ((24, 0), (.val (.int .i64))), ((3, 0), (.val (.int .i64))), ((19, 0), (.own 0)), ((4, 0), (.val .bool)), ((21, 0), (.own 1)), ((2, 0), (.val (.int .i64))), ((15, 0), (.val (.int .i64))), ((25, 0), (.val (.int .i64)))]⟩
             (.seq (.seq .leaf
             (.cond none
               .leaf
               .leaf))
             (.block ⟨[((.sl 34 kI2), (.ow .sh), (19, 0)), ((.sl 34 kI2), (.ow .sh), (21, 0))], [((23, 0), (.val (.int .i64))), ((24, 0), (.val (.int .i64))), ((3, 0), (.val (.int .i64))), ((19, 0), (.own 0)), ((4, 0), (.val .bool)), ((21, 0), (.own 1)), ((2, 0), (.val (.int .i64))), ((15, 0), (.val (.int .i64))), ((25, 0), (.val (.int .i64)))]⟩ true
               .leaf))))
         (.seq (.seq .leaf
         (.cond none
           (.seq .leaf
           .leaf)
           .leaf))
         .leaf))))
       .leaf)))))
   (.seq (.block ⟨[((.sl 34 kI2), (.ow .sh), (21, 0))], [((4, 0), (.val .bool)), ((24, 0), (.val (.int .i64))), ((15, 0), (.val (.int .i64))), ((21, 0), (.own 0)), ((23, 0), (.val (.int .i64)))]⟩ true
     (.loop ⟨[((.sl 34 kI2), (.ow .sh), (21, 0))], [((23, 0), (.val (.int .i64))), ((4, 0), (.val .bool)), ((24, 0), (.val (.int .i64))), ((15, 0), (.val (.int .i64))), ((21, 0), (.own 0)), ((2, 0), (.val (.int .i64)))]⟩
       (.seq (.seq .leaf
       (.cond none
         .leaf
         .leaf))
       (.block ⟨[((.sl 34 kI2), (.ow .sh), (21, 0))], [((23, 0), (.val (.int .i64))), ((4, 0), (.val .bool)), ((24, 0), (.val (.int .i64))), ((15, 0), (.val (.int .i64))), ((21, 0), (.own 0)), ((2, 0), (.val (.int .i64)))]⟩ true
         .leaf))))
   (.seq .leaf
   .leaf))))))))))))))
def d4_K1  : ((((List I2) × Unit) × (Bool × (Int × I2))) → (Option ((Bool × Unit) × Unit))) :=
  (fun (x16 : (((List I2) × Unit) × (Bool × (Int × I2)))) => (lt (((List.length x16.1.1) : Nat) : Int) fun (x17 : Int) =>
  (lt (x16.2.2.2.2.1 == x17) fun (x18 : Bool) =>
  (lt (((List.length x16.1.1) : Nat) : Int) fun (x19 : Int) =>
  (lt (x19 == x16.2.2.2.1) fun (x20 : Bool) =>
  (lt (if (x18 = Bool.true) then
  x20
  else Bool.false) fun (x21 : Bool) =>
  (lt (x16.2.2.1 == (1 : Int)) fun (x22 : Bool) =>
  (lt (x22 == x16.2.1) fun (x23 : Bool) =>
  (Option.some (((if (x21 = Bool.true) then
  x23
  else Bool.false), ()), ()))))))))))
def d4_K2 (x17 : ((((List I2) × Unit) × (Int × (Bool × (Int × I2)))) → (Option ((Bool × Unit) × Unit)))) : ((((List I2) × Unit) × (Int × (Bool × (Int × I2)))) → (Option ((Bool × Unit) × Unit))) :=
  (fun (x24 : (((List I2) × Unit) × (Int × (Bool × (Int × I2))))) => (x17 ((x24.1.1, ()), (x24.2.1, (x24.2.2.1, (x24.2.2.2.1, (x24.2.2.2.2.1, (x24.2.2.2.2.2.1, ()))))))))
def d4_L3 (x16 : ((((List I2) × Unit) × (Bool × (Int × I2))) → (Option ((Bool × Unit) × Unit)))) : (((((List I2) × Unit) × (Int × (Bool × (Int × I2)))) → (Option ((Bool × Unit) × Unit))) → ((((List I2) × Unit) × (Int × (Bool × (Int × I2)))) → (Option ((Bool × Unit) × Unit)))) :=
  (fun (x17 : ((((List I2) × Unit) × (Int × (Bool × (Int × I2)))) → (Option ((Bool × Unit) × Unit)))) => (fun (x18 : (((List I2) × Unit) × (Int × (Bool × (Int × I2))))) => (lt (((List.length x18.1.1) : Nat) : Int) fun (x19 : Int) =>
  (lt (Decidable.decide (x18.2.1 < x19)) fun (x20 : Bool) =>
  (if (((Bool.not ((x20 == Bool.true) && Bool.true)) || ((Decidable.decide ((0 : Int) ≤ x18.2.1)) && (Decidable.decide (x18.2.1 < (((List.length x18.1.1) : Nat) : Int))))) = Bool.true) then
  (if (((Bool.not ((x20 == Bool.true) && Bool.true)) || ((Decidable.decide ((Int.toNat x18.2.1) < (List.length x18.1.1))) && Bool.true)) = Bool.true) then
  (if (((Bool.not ((x20 == Bool.true) && Bool.true)) || ((Decidable.decide ((Int.toNat x18.2.1) < (List.length x18.1.1))) && Bool.true)) = Bool.true) then
  (lt (List.getD x18.1.1 (Int.toNat x18.2.1) ((0 : Int), ((0 : Int), ()))).2.1 fun (x21 : Int) =>
  (lt (x21 == x18.2.2.2.2.2.1) fun (x22 : Bool) =>
  (lt (if (x20 = Bool.true) then
  x22
  else Bool.false) fun (x23 : Bool) =>
  (if (x23 = Bool.true) then
  (shr (d4_K2 x17) (fun (x24 : ((((List I2) × Unit) × (Int × (Bool × (Int × I2)))) → (Option ((Bool × Unit) × Unit)))) => (x24 ((x18.1.1, ()), ((Go.IntKind.wrap Go.IntKind.i64 (x18.2.1 + (1 : Int))), (x18.2.2.1, (x18.2.2.2.1, (x18.2.2.2.2.1, (x18.2.2.2.2.2.1, ())))))))))
  else (x16 ((x18.1.1, ()), (x18.2.2.1, (x18.2.2.2.1, (x18.2.2.2.2.1, (x18.2.1, ()))))))))))
  else (Option.none))
  else (Option.none))
  else (Option.none))))))
def d4_K4 (x0 : Nat) : ((((List I2) × Unit) × (Int × (Bool × (Int × I2)))) → (Option ((Bool × Unit) × Unit))) :=
  (fun (x15 : (((List I2) × Unit) × (Int × (Bool × (Int × I2))))) => (shr d4_K1 (fun (x16 : ((((List I2) × Unit) × (Bool × (Int × I2))) → (Option ((Bool × Unit) × Unit)))) => (loopN (d4_L3 x16) x0 ((x15.1.1, ()), (x15.2.1, (x15.2.2.1, (x15.2.2.2.1, (x15.2.2.2.2.1, (x15.2.2.2.2.2.1, ()))))))))))
def d4_K5 (x16 : ((((List I2) × ((List I2) × Unit)) × (Int × (Int × (Int × (Bool × (Int × I2)))))) → (Option ((Bool × Unit) × Unit)))) : ((((List I2) × ((List I2) × Unit)) × (Int × (Int × (Bool × (Int × (Int × I2)))))) → (Option ((Bool × Unit) × Unit))) :=
  (fun (x20 : (((List I2) × ((List I2) × Unit)) × (Int × (Int × (Bool × (Int × (Int × I2))))))) => (x16 ((x20.1.1, (x20.1.2.1, ())), ((Go.IntKind.wrap Go.IntKind.i64 (x20.2.2.2.2.2.2.2.1 + (1 : Int))), (x20.2.1, (x20.2.2.1, (x20.2.2.2.1, (x20.2.2.2.2.1, (x20.2.2.2.2.2.1, (x20.2.2.2.2.2.2.1, ()))))))))))
def d4_K6 (x20 : ((((List I2) × ((List I2) × Unit)) × (Int × (Int × (Bool × (Int × (Int × I2)))))) → (Option ((Bool × Unit) × Unit)))) : ((((List I2) × ((List I2) × Unit)) × (Int × (Int × (Bool × (Int × (Int × I2)))))) → (Option ((Bool × Unit) × Unit))) :=
  (fun (x23 : (((List I2) × ((List I2) × Unit)) × (Int × (Int × (Bool × (Int × (Int × I2))))))) => (lt (((List.length x23.1.2.1) : Nat) : Int) fun (x24 : Int) =>
  (lt (Decidable.decide (x23.2.2.2.2.2.2.2.1 ≥ x24)) fun (x25 : Bool) =>
  (if (((Bool.not ((x25 == Bool.false) && Bool.true)) || ((Decidable.decide ((0 : Int) ≤ x23.2.2.2.2.2.2.2.1)) && (Decidable.decide (x23.2.2.2.2.2.2.2.1 < (((List.length x23.1.2.1) : Nat) : Int))))) = Bool.true) then
  (if (((Bool.not ((x25 == Bool.false) && Bool.true)) || ((Decidable.decide ((Int.toNat x23.2.2.2.2.2.2.2.1) < (List.length x23.1.2.1))) && Bool.true)) = Bool.true) then
  (lt (List.getD x23.1.2.1 (Int.toNat x23.2.2.2.2.2.2.2.1) ((0 : Int), ((0 : Int), ()))) fun (x26 : I2) =>
  (if (((Bool.not ((x25 == Bool.false) && Bool.true)) || ((Decidable.decide ((0 : Int) ≤ x23.2.2.2.2.2.2.1)) && (Decidable.decide (x23.2.2.2.2.2.2.1 < (((List.length x23.1.1) : Nat) : Int))))) = Bool.true) then
  (if (((Bool.not ((x25 == Bool.false) && Bool.true)) || ((Decidable.decide ((Int.toNat x23.2.2.2.2.2.2.1) < (List.length x23.1.1))) && Bool.true)) = Bool.true) then
  (lt (List.getD x23.1.1 (Int.toNat x23.2.2.2.2.2.2.1) ((0 : Int), ((0 : Int), ()))) fun (x27 : I2) =>
  (lt (Bool.not ((x26.1 == x27.1) && ((x26.2.1 == x27.2.1) && Bool.true))) fun (x28 : Bool) =>
  (lt (if (x25 = Bool.true) then
  Bool.true
  else x28) fun (x29 : Bool) =>
  (if (x29 = Bool.true) then
  (Option.some ((Bool.false, ()), ()))
  else (x20 ((x23.1.1, (x23.1.2.1, ())), (x23.2.1, (x23.2.2.1, (x23.2.2.2.1, ((Go.IntKind.wrap Go.IntKind.i64 (x23.2.2.2.2.2.2.2.1 + (1 : Int))), (x23.2.2.2.2.1, (x23.2.2.2.2.2.1, (x23.2.2.2.2.2.2.1, ())))))))))))))
  else (Option.none))
  else (Option.none)))
  else (Option.none))
  else (Option.none)))))
def d4_K7 (x24 : ((((List I2) × ((List I2) × Unit)) × (Int × (Int × (Int × (Bool × (Int × I2)))))) → (Option ((Bool × Unit) × Unit)))) : ((((List I2) × ((List I2) × Unit)) × (Int × (Int × (Int × (Bool × (Int × I2)))))) → (Option ((Bool × Unit) × Unit))) :=
  (fun (x31 : (((List I2) × ((List I2) × Unit)) × (Int × (Int × (Int × (Bool × (Int × I2))))))) => (x24 ((x31.1.1, (x31.1.2.1, ())), (x31.2.1, (x31.2.2.1, (x31.2.2.2.1, (x31.2.2.2.2.1, (x31.2.2.2.2.2.1, (x31.2.2.2.2.2.2.1, (x31.2.2.2.2.2.2.2.1, ()))))))))))
def d4_L8 (x23 : ((((List I2) × ((List I2) × Unit)) × (Int × (Int × (Bool × (Int × (Int × I2)))))) → (Option ((Bool × Unit) × Unit)))) : (((((List I2) × ((List I2) × Unit)) × (Int × (Int × (Int × (Bool × (Int × I2)))))) → (Option ((Bool × Unit) × Unit))) → ((((List I2) × ((List I2) × Unit)) × (Int × (Int × (Int × (Bool × (Int × I2)))))) → (Option ((Bool × Unit) × Unit)))) :=
  (fun (x24 : ((((List I2) × ((List I2) × Unit)) × (Int × (Int × (Int × (Bool × (Int × I2)))))) → (Option ((Bool × Unit) × Unit)))) => (fun (x25 : (((List I2) × ((List I2) × Unit)) × (Int × (Int × (Int × (Bool × (Int × I2))))))) => (lt (((List.length x25.1.2.1) : Nat) : Int) fun (x26 : Int) =>
  (lt (Decidable.decide (x25.2.1 < x26)) fun (x27 : Bool) =>
  (if (((Bool.not ((x27 == Bool.true) && Bool.true)) || ((Decidable.decide ((0 : Int) ≤ x25.2.1)) && (Decidable.decide (x25.2.1 < (((List.length x25.1.2.1) : Nat) : Int))))) = Bool.true) then
  (if (((Bool.not ((x27 == Bool.true) && Bool.true)) || ((Decidable.decide ((Int.toNat x25.2.1) < (List.length x25.1.2.1))) && Bool.true)) = Bool.true) then
  (if (((Bool.not ((x27 == Bool.true) && Bool.true)) || ((Decidable.decide ((Int.toNat x25.2.1) < (List.length x25.1.2.1))) && Bool.true)) = Bool.true) then
  (lt (List.getD x25.1.2.1 (Int.toNat x25.2.1) ((0 : Int), ((0 : Int), ()))).2.1 fun (x28 : Int) =>
  (lt (x28 == x25.2.2.2.2.2.1) fun (x29 : Bool) =>
  (lt (if (x27 = Bool.true) then
  x29
  else Bool.false) fun (x30 : Bool) =>
  (if (x30 = Bool.true) then
  (shr (d4_K7 x24) (fun (x31 : ((((List I2) × ((List I2) × Unit)) × (Int × (Int × (Int × (Bool × (Int × I2)))))) → (Option ((Bool × Unit) × Unit)))) => (x31 ((x25.1.1, (x25.1.2.1, ())), ((Go.IntKind.wrap Go.IntKind.i64 (x25.2.1 + (1 : Int))), (x25.2.2.1, (x25.2.2.2.1, (x25.2.2.2.2.1, (x25.2.2.2.2.2.1, (x25.2.2.2.2.2.2.1, (x25.2.2.2.2.2.2.2.1, ())))))))))))
  else (x23 ((x25.1.1, (x25.1.2.1, ())), (x25.2.2.1, (x25.2.2.2.1, (x25.2.2.2.2.1, (x25.2.2.2.2.2.1, (x25.2.2.2.2.2.2.1, (x25.2.2.2.2.2.2.2.1, (x25.2.1, ())))))))))))))
  else (Option.none))
  else (Option.none))
  else (Option.none))))))
def d4_L9 (x0 : Nat) (x15 : ((((List I2) × Unit) × (Int × (Bool × (Int × I2)))) → (Option ((Bool × Unit) × Unit)))) : (((((List I2) × ((List I2) × Unit)) × (Int × (Int × (Int × (Bool × (Int × I2)))))) → (Option ((Bool × Unit) × Unit))) → ((((List I2) × ((List I2) × Unit)) × (Int × (Int × (Int × (Bool × (Int × I2)))))) → (Option ((Bool × Unit) × Unit)))) :=
  (fun (x16 : ((((List I2) × ((List I2) × Unit)) × (Int × (Int × (Int × (Bool × (Int × I2)))))) → (Option ((Bool × Unit) × Unit)))) => (fun (x17 : (((List I2) × ((List I2) × Unit)) × (Int × (Int × (Int × (Bool × (Int × I2))))))) => (lt (((List.length x17.1.1) : Nat) : Int) fun (x18 : Int) =>
  (lt (Decidable.decide (x17.2.1 < x18)) fun (x19 : Bool) =>
  (if (x19 = Bool.true) then
  (shr (d4_K5 x16) (fun (x20 : ((((List I2) × ((List I2) × Unit)) × (Int × (Int × (Bool × (Int × (Int × I2)))))) → (Option ((Bool × Unit) × Unit)))) => (if (((Decidable.decide ((0 : Int) ≤ x17.2.1)) && (Decidable.decide (x17.2.1 < (((List.length x17.1.1) : Nat) : Int)))) = Bool.true) then
  (if (((Decidable.decide ((Int.toNat x17.2.1) < (List.length x17.1.1))) && Bool.true) = Bool.true) then
  (if (((Decidable.decide ((Int.toNat x17.2.1) < (List.length x17.1.1))) && Bool.true) = Bool.true) then
  (lt (List.getD x17.1.1 (Int.toNat x17.2.1) ((0 : Int), ((0 : Int), ()))).2.1 fun (x21 : Int) =>
  (lt (x21 == x17.2.2.2.2.2.2.1) fun (x22 : Bool) =>
  (if (x22 = Bool.true) then
  (lt (Bool.not x17.2.2.2.2.1) fun (x23 : Bool) =>
  (if (((Bool.not ((x23 == Bool.false) && Bool.true)) || ((Decidable.decide ((0 : Int) ≤ x17.2.1)) && (Decidable.decide (x17.2.1 < (((List.length x17.1.1) : Nat) : Int))))) = Bool.true) then
  (if (((Bool.not ((x23 == Bool.false) && Bool.true)) || ((Decidable.decide ((Int.toNat x17.2.1) < (List.length x17.1.1))) && Bool.true)) = Bool.true) then
  (if (((Bool.not ((x23 == Bool.false) && Bool.true)) || ((Decidable.decide ((Int.toNat x17.2.1) < (List.length x17.1.1))) && Bool.true)) = Bool.true) then
  (lt (List.getD x17.1.1 (Int.toNat x17.2.1) ((0 : Int), ((0 : Int), ()))).1 fun (x24 : Int) =>
  (lt (x24 != x17.2.2.2.1) fun (x25 : Bool) =>
  (lt (if (x23 = Bool.true) then
  Bool.true
  else x25) fun (x26 : Bool) =>
  (if (x26 = Bool.true) then
  (Option.some ((Bool.false, ()), ()))
  else (x20 ((x17.1.1, (x17.1.2.1, ())), ((Go.IntKind.wrap Go.IntKind.i64 (x17.2.2.1 + (1 : Int))), (x17.2.2.2.1, (x17.2.2.2.2.1, (x17.2.2.2.2.2.1, (x17.2.2.2.2.2.2.1, (x17.2.2.2.2.2.2.2.1, (x17.2.1, ())))))))))))))
  else (Option.none))
  else (Option.none))
  else (Option.none)))
  else (shr (d4_K6 x20) (fun (x23 : ((((List I2) × ((List I2) × Unit)) × (Int × (Int × (Bool × (Int × (Int × I2)))))) → (Option ((Bool × Unit) × Unit)))) => (loopN (d4_L8 x23) x0 ((x17.1.1, (x17.1.2.1, ())), (x17.2.2.2.2.2.1, (x17.2.2.1, (x17.2.2.2.1, (x17.2.2.2.2.1, (x17.2.2.2.2.2.2.1, (x17.2.2.2.2.2.2.2.1, (x17.2.1, ()))))))))))))))
  else (Option.none))
  else (Option.none))
  else (Option.none))))
  else (x15 ((x17.1.2.1, ()), (x17.2.2.2.2.2.1, (x17.2.2.2.2.1, (x17.2.2.1, (x17.2.2.2.2.2.2.2.1, (x17.2.2.2.2.2.2.1, ()))))))))))))
def d4_K10 (x0 : Nat) : ((((Option WH) × ((Option WH) × Unit)) × (Int × (Bool × I2))) → (Option ((Bool × Unit) × Unit))) :=
  (fun (x12 : (((Option WH) × ((Option WH) × Unit)) × (Int × (Bool × I2)))) => (Option.bind (if ((Option.isSome x12.1.2.1) = Bool.true) then
  (d7 x0 ((Option.getD x12.1.2.1 ((0 : Int), ((Option.none), ((List.replicate (7 : Nat) (List.replicate (64 : Nat) (Option.some ([] : List Int)))), ())))), ((1099511627776 : Int), ())))
  else (Option.none)) fun (x13 : (((List I2) × (Int × Unit)) × (WH × Unit))) =>
  (Option.bind (if ((Option.isSome x12.1.1) = Bool.true) then
  (d7 x0 ((Option.getD x12.1.1 ((0 : Int), ((Option.none), ((List.replicate (7 : Nat) (List.replicate (64 : Nat) (Option.some ([] : List Int)))), ())))), ((1099511627776 : Int), ())))
  else (Option.none)) fun (x14 : (((List I2) × (Int × Unit)) × (WH × Unit))) =>
  (shr (d4_K4 x0) (fun (x15 : ((((List I2) × Unit) × (Int × (Bool × (Int × I2)))) → (Option ((Bool × Unit) × Unit)))) => (loopN (d4_L9 x0 x15) x0 ((x13.1.1, (x14.1.1, ())), ((0 : Int), ((0 : Int), (x12.2.1, (x12.2.2.1, ((0 : Int), (x12.2.2.2.1, (x12.2.2.2.2.1, ()))))))))))))))
def d4 : (Nat → ((Int × ((List I2) × (Int × (Int × (Bool × Unit))))) → (Option ((Bool × Unit) × Unit)))) :=
  (fun (x0 : Nat) => (fun (x1 : (Int × ((List I2) × (Int × (Int × (Bool × Unit)))))) => (Option.bind (d6 x0 (x1.1, (x1.2.1, ()))) fun (x2 : (((Option WH) × Unit) × Unit)) =>
  (Option.bind (d6 x0 (x1.1, (x1.2.1, ()))) fun (x3 : (((Option WH) × Unit) × Unit)) =>
  (lt (Option.isNone x2.1.1) fun (x4 : Bool) =>
  (lt (Option.isNone x3.1.1) fun (x5 : Bool) =>
  (lt (if (x4 = Bool.true) then
  Bool.true
  else x5) fun (x6 : Bool) =>
  (lt (((List.length x1.2.1) : Nat) : Int) fun (x7 : Int) =>
  (lt (Decidable.decide (x7 > (3000 : Int))) fun (x8 : Bool) =>
  (lt (if (x6 = Bool.true) then
  Bool.true
  else x8) fun (x9 : Bool) =>
  (if (x9 = Bool.true) then
  (lt (Decidable.decide (x1.1 < (0 : Int))) fun (x10 : Bool) =>
  (lt (Decidable.decide (x1.1 > (1099511627776 : Int))) fun (x11 : Bool) =>
  (lt (if (x10 = Bool.true) then
  Bool.true
  else x11) fun (x12 : Bool) =>
  (lt (Bool.not (Option.isNone x2.1.1)) fun (x13 : Bool) =>
  (lt (Bool.not (Option.isNone x3.1.1)) fun (x14 : Bool) =>
  (lt (if (x13 = Bool.true) then
  x14
  else Bool.false) fun (x15 : Bool) =>
  (Option.some (((if (x12 = Bool.true) then
  Bool.true
  else x15), ()), ()))))))))
  else (Option.bind (if ((Option.isSome x2.1.1) = Bool.true) then
  (d14 x0 ((Option.getD x2.1.1 ((0 : Int), ((Option.none), ((List.replicate (7 : Nat) (List.replicate (64 : Nat) (Option.some ([] : List Int)))), ())))), (x1.2.2.1, ())))
  else (Option.none)) fun (x10 : ((Int × (Bool × Unit)) × Unit)) =>
  (Option.bind (if ((Option.isSome (Option.some (Option.getD x2.1.1 ((0 : Int), ((Option.none), ((List.replicate (7 : Nat) (List.replicate (64 : Nat) (Option.some ([] : List Int)))), ())))))) = Bool.true) then
  (d9 x0 ((Option.getD (Option.some (Option.getD x2.1.1 ((0 : Int), ((Option.none), ((List.replicate (7 : Nat) (List.replicate (64 : Nat) (Option.some ([] : List Int)))), ()))))) ((0 : Int), ((Option.none), ((List.replicate (7 : Nat) (List.replicate (64 : Nat) (Option.some ([] : List Int)))), ())))), ()))
  else (Option.none)) fun (x11 : ((Int × Unit) × Unit)) =>
  (shr (d4_K10 x0) (fun (x12 : ((((Option WH) × ((Option WH) × Unit)) × (Int × (Bool × I2))) → (Option ((Bool × Unit) × Unit)))) => (if (x1.2.2.2.2.1 = Bool.true) then
  (Option.bind (if ((Option.isSome (Option.some (Option.getD (Option.some (Option.getD x2.1.1 ((0 : Int), ((Option.none), ((List.replicate (7 : Nat) (List.replicate (64 : Nat) (Option.some ([] : List Int)))), ()))))) ((0 : Int), ((Option.none), ((List.replicate (7 : Nat) (List.replicate (64 : Nat) (Option.some ([] : List Int)))), ())))))) = Bool.true) then
  (d15 x0 ((Option.getD (Option.some (Option.getD (Option.some (Option.getD x2.1.1 ((0 : Int), ((Option.none), ((List.replicate (7 : Nat) (List.replicate (64 : Nat) (Option.some ([] : List Int)))), ()))))) ((0 : Int), ((Option.none), ((List.replicate (7 : Nat) (List.replicate (64 : Nat) (Option.some ([] : List Int)))), ()))))) ((0 : Int), ((Option.none), ((List.replicate (7 : Nat) (List.replicate (64 : Nat) (Option.some ([] : List Int)))), ())))), (x1.2.2.1, (x1.2.2.2.1, ()))))
  else (Option.none)) fun (x13 : ((Int × Unit) × (WH × Unit))) =>
  (lt (x13.1.1 == (0 : Int)) fun (x14 : Bool) =>
  (Option.bind (d16 x0 ((x1.2.2.2.1, (x1.2.2.1, ())), (x1.1, ()))) fun (x15 : ((Bool × Unit) × Unit)) =>
  (lt (Bool.not (x14 == x15.1.1)) fun (x16 : Bool) =>
  (if (x16 = Bool.true) then
  (Option.some ((Bool.false, ()), ()))
  else (lt (x13.1.1 != (0 : Int)) fun (x17 : Bool) =>
  (if (x17 = Bool.true) then
  (Option.bind (if ((Option.isSome (Option.some x13.2.1)) = Bool.true) then
  (d14 x0 ((Option.getD (Option.some x13.2.1) ((0 : Int), ((Option.none), ((List.replicate (7 : Nat) (List.replicate (64 : Nat) (Option.some ([] : List Int)))), ())))), (x1.2.2.1, ())))
  else (Option.none)) fun (x18 : ((Int × (Bool × Unit)) × Unit)) =>
  (lt (x18.1.1 == x10.1.1) fun (x19 : Bool) =>
  (lt (x18.1.2.1 == x10.1.2.1) fun (x20 : Bool) =>
  (lt (if (x19 = Bool.true) then
  x20
  else Bool.false) fun (x21 : Bool) =>
  (Option.bind (if (((x21 == Bool.true) && Bool.true) = Bool.true) then
  (if ((Option.isSome (Option.some (Option.getD (Option.some x13.2.1) ((0 : Int), ((Option.none), ((List.replicate (7 : Nat) (List.replicate (64 : Nat) (Option.some ([] : List Int)))), ())))))) = Bool.true) then
  (d9 x0 ((Option.getD (Option.some (Option.getD (Option.some x13.2.1) ((0 : Int), ((Option.none), ((List.replicate (7 : Nat) (List.replicate (64 : Nat) (Option.some ([] : List Int)))), ()))))) ((0 : Int), ((Option.none), ((List.replicate (7 : Nat) (List.replicate (64 : Nat) (Option.some ([] : List Int)))), ())))), ()))
  else (Option.none))
  else (Option.some (((0 : Int), ()), ()))) fun (x22 : ((Int × Unit) × Unit)) =>
  (lt (x22.1.1 == x11.1.1) fun (x23 : Bool) =>
  (Option.some (((if (x21 = Bool.true) then
  x23
  else Bool.false), ()), ()))))))))
  else (x12 ((x3.1.1, ((Option.some x13.2.1), ())), (x1.2.2.2.1, (x1.2.2.2.2.1, (x1.2.2.1, (x11.1.1, ())))))))))))))
  else (Option.bind (if ((Option.isSome (Option.some (Option.getD (Option.some (Option.getD x2.1.1 ((0 : Int), ((Option.none), ((List.replicate (7 : Nat) (List.replicate (64 : Nat) (Option.some ([] : List Int)))), ()))))) ((0 : Int), ((Option.none), ((List.replicate (7 : Nat) (List.replicate (64 : Nat) (Option.some ([] : List Int)))), ())))))) = Bool.true) then
  (d17 x0 ((Option.getD (Option.some (Option.getD (Option.some (Option.getD x2.1.1 ((0 : Int), ((Option.none), ((List.replicate (7 : Nat) (List.replicate (64 : Nat) (Option.some ([] : List Int)))), ()))))) ((0 : Int), ((Option.none), ((List.replicate (7 : Nat) (List.replicate (64 : Nat) (Option.some ([] : List Int)))), ()))))) ((0 : Int), ((Option.none), ((List.replicate (7 : Nat) (List.replicate (64 : Nat) (Option.some ([] : List Int)))), ())))), (x1.2.2.1, ())))
  else (Option.none)) fun (x13 : ((Bool × Unit) × (WH × Unit))) =>
  (lt (Bool.not (x13.1.1 == x10.1.2.1)) fun (x14 : Bool) =>
  (Option.bind (if (((x14 == Bool.false) && Bool.true) = Bool.true) then
  (if ((Option.isSome (Option.some x13.2.1)) = Bool.true) then
  (d17 x0 ((Option.getD (Option.some x13.2.1) ((0 : Int), ((Option.none), ((List.replicate (7 : Nat) (List.replicate (64 : Nat) (Option.some ([] : List Int)))), ())))), (x1.2.2.1, ())))
  else (Option.none))
  else (Option.some ((Bool.false, ()), (((0 : Int), ((Option.none), ((List.replicate (7 : Nat) (List.replicate (64 : Nat) (Option.some ([] : List Int)))), ()))), ())))) fun (x15 : ((Bool × Unit) × (WH × Unit))) =>
  (lt (if (x14 = Bool.true) then
  Bool.true
  else x15.1.1) fun (x16 : Bool) =>
  (if (x16 = Bool.true) then
  (Option.some ((Bool.false, ()), ()))
  else (x12 ((x3.1.1, ((if (((x14 == Bool.false) && Bool.true) = Bool.true) then
  (Option.some x15.2.1)
  else (Option.some x13.2.1)), ())), (x1.2.2.2.1, (x1.2.2.2.2.1, (x1.2.2.1, (x11.1.1, ())))))))))))))))))))))))))))
theorem k4 : c_fn Try.prog ⟨[(6, ⟨s6, d6⟩), (14, ⟨s14, d14⟩), (9, ⟨s9, d9⟩), (15, ⟨s15, d15⟩), (16, ⟨s16, d16⟩), (17, ⟨s17, d17⟩), (7, ⟨s7, d7⟩)], ksN, [], [Ytlagcpfboljhnaa.L.slotPf]⟩ Try.f4 s4 h4 = some d4 := by kernel_rfl
end Go.Proofs.Ytlagcpfboljhnaa.L
