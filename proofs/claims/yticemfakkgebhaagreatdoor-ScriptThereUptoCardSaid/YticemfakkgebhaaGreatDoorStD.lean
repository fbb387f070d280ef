import Derived.Test.YticemfakkgebhaaGreatDoorLiftC
import Derived.Test.YticemfakkgebhaaGreatDoorProg
import Derived.Lib.Split
import Derived.Lib.IndexMore
import Derived.Lib.ItoaNum
import Derived.Lib.Join
import Derived.Lib.Strings
namespace Go.Proofs.YticemfakkgebhaaGreatDoor.L
open Go Go.Lift Go.Proofs
set_option maxRecDepth 100000
set_option linter.unusedVariables false
abbrev IN : Type := (Int × (Int × (Int × ((List Int) × Unit))))
def inI (x : Int) : Prop := -9223372036854775808 ≤ x ∧ x ≤ 9223372036854775807
instance (x : Int) : Decidable (inI x) := by unfold inI; infer_instance
def u8s (l : List Int) : List UInt8 := l.map fun x => UInt8.ofNat x.toNat
def u8i (l : List UInt8) : List Int := l.map fun x => (x.toNat : Int)
def byteL (l : List Int) : Bool := l.all fun x => decide (0 ≤ x) && decide (x < 256)
def joinL (xs : List ByteArray) (sep : ByteArray) : List UInt8 := Lib.join (xs.map (·.data.toList)) sep.data.toList
def dig (c : Int) : Int := if c < 48 then -1 else if c > 57 then -1 else RowKit.wrap64 (RowKit.wrap32 (c - 48))
def stepN (n c : Int) : Int := if dig c ≥ 0 then RowKit.wrap64 (RowKit.wrap64 (n * 10) + dig c) else n
def numF (s : ByteArray) : Nat → Nat → Int → Int
  | 0, _, n => n
  | b + 1, pos, n => if pos < s.size then numF s b (pos + (Utf8.decode s pos).2) (stepN n (Utf8.decode s pos).1) else n
def minus (s : ByteArray) : Bool := Lib.hasPrefix s.data.toList [45]

/-- bulkhead/bulkheadref21.words -/
def s31 : Sig := ⟨[((.sl 2 (.int .i64)), .val)], [((.sl 2 (.int .i64)), (.own (.ow .sh)))]⟩
 def h31 : Hint := (.seq .leaf
   (.seq .leaf
   (.seq .leaf
   .leaf)))
def d31 : (Nat → (((List Int) × Unit) → (Option (((List Int) × Unit) × Unit)))) :=
  (fun (x0 : Nat) => (fun (x1 : ((List Int) × Unit)) => (if ((Go.Lift.appFits (0 : Nat) (List.length x1.1) (8 : Nat)) = Bool.true) then
  (Option.some ((x1.1, ()), ()))
  else (Option.none))))
theorem k31 : c_fn Tryz.prog [] Tryz.f31 s31 h31 = some d31 := by kernel_rfl
/-- bulkhead/bulkheadref21.with -/
def s14 : Sig := ⟨[((.sl 25 (.pair (.int .i64) (.pair (.int .i64) (.pair (.int .i64) (.pair (.sl 2 (.int .i64)) .unit))))), (.tak (.ow .sh))), ((.pair (.int .i64) (.pair (.int .i64) (.pair (.int .i64) (.pair (.sl 2 (.int .i64)) .unit)))), .val)], [((.sl 25 (.pair (.int .i64) (.pair (.int .i64) (.pair (.int .i64) (.pair (.sl 2 (.int .i64)) .unit))))), (.own (.ow .sh)))]⟩
 def h14 : Hint := (.seq .leaf
   (.seq .leaf
   (.seq .leaf
   .leaf)))
def d14 : (Nat → (((List IN) × (IN × Unit)) → (Option (((List IN) × Unit) × Unit)))) :=
  (fun (x0 : Nat) => (fun (x1 : ((List IN) × (IN × Unit))) => (Option.bind (d31 x0 (x1.2.1.2.2.2.1, ())) fun (x2 : (((List Int) × Unit) × Unit)) =>
  (lt ((x1.2.1.1, (x1.2.1.2.1, (x1.2.1.2.2.1, (x2.1.1, x1.2.1.2.2.2.2)))) :: ([] : List IN)) fun (x3 : (List IN)) =>
  (if ((Go.Lift.appFits (List.length x1.1) (List.length x3) (48 : Nat)) = Bool.true) then
  (Option.some (((x1.1 ++ x3), ()), ()))
  else (Option.none))))))
theorem k14 : c_fn Tryz.prog [(31, ⟨s31, d31⟩)] Tryz.f14 s14 h14 = some d14 := by kernel_rfl
/-- bulkhead/bulkheadref21.Copy -/
def s5 : Sig := ⟨[((.sl 25 (.pair (.int .i64) (.pair (.int .i64) (.pair (.int .i64) (.pair (.sl 2 (.int .i64)) .unit))))), .val)], [((.sl 25 (.pair (.int .i64) (.pair (.int .i64) (.pair (.int .i64) (.pair (.sl 2 (.int .i64)) .unit))))), (.own (.ow .sh)))]⟩
 def h5 : Hint := (.seq .leaf
   (.seq .leaf
   (.seq (.seq .leaf
   (.block ⟨[((.sl 25 (.pair (.int .i64) (.pair (.int .i64) (.pair (.int .i64) (.pair (.sl 2 (.int .i64)) .unit))))), (.ow .sh), (3, 0))], [((3, 0), (.own 0))]⟩ true
     (.loop ⟨[((.sl 25 (.pair (.int .i64) (.pair (.int .i64) (.pair (.int .i64) (.pair (.sl 2 (.int .i64)) .unit))))), (.ow .sh), (3, 0))], [((4, 0), (.val (.int .i64))), ((0, 0), (.val (.sl 25 (.pair (.int .i64) (.pair (.int .i64) (.pair (.int .i64) (.pair (.sl 2 (.int .i64)) .unit))))))), ((3, 0), (.own 0))]⟩
       (.seq (.seq .leaf
       (.cond none
         .leaf
         .leaf))
       (.seq (.block ⟨[((.sl 25 (.pair (.int .i64) (.pair (.int .i64) (.pair (.int .i64) (.pair (.sl 2 (.int .i64)) .unit))))), (.ow .sh), (3, 0))], [((0, 0), (.val (.sl 25 (.pair (.int .i64) (.pair (.int .i64) (.pair (.int .i64) (.pair (.sl 2 (.int .i64)) .unit))))))), ((3, 0), (.own 0)), ((4, 0), (.val (.int .i64)))]⟩ true
         .leaf)
       .leaf)))))
   (.seq .leaf
   .leaf))))
def d5_K1  : ((((List IN) × Unit) × Unit) → (Option (((List IN) × Unit) × Unit))) :=
  (fun (x2 : (((List IN) × Unit) × Unit)) => (Option.some ((x2.1.1, ()), ())))
def d5_K2 (x3 : ((((List IN) × Unit) × (Int × ((List IN) × Unit))) → (Option (((List IN) × Unit) × Unit)))) : ((((List IN) × Unit) × ((List IN) × (Int × Unit))) → (Option (((List IN) × Unit) × Unit))) :=
  (fun (x7 : (((List IN) × Unit) × ((List IN) × (Int × Unit)))) => (x3 ((x7.1.1, ()), ((Go.IntKind.wrap Go.IntKind.i64 (x7.2.2.1 + (1 : Int))), (x7.2.1, ())))))
def d5_L3 (x0 : Nat) (x2 : ((((List IN) × Unit) × Unit) → (Option (((List IN) × Unit) × Unit)))) : (((((List IN) × Unit) × (Int × ((List IN) × Unit))) → (Option (((List IN) × Unit) × Unit))) → ((((List IN) × Unit) × (Int × ((List IN) × Unit))) → (Option (((List IN) × Unit) × Unit)))) :=
  (fun (x3 : ((((List IN) × Unit) × (Int × ((List IN) × Unit))) → (Option (((List IN) × Unit) × Unit)))) => (fun (x4 : (((List IN) × Unit) × (Int × ((List IN) × Unit)))) => (lt (((List.length x4.2.2.1) : Nat) : Int) fun (x5 : Int) =>
  (lt (Decidable.decide (x4.2.1 < x5)) fun (x6 : Bool) =>
  (if (x6 = Bool.true) then
  (shr (d5_K2 x3) (fun (x7 : ((((List IN) × Unit) × ((List IN) × (Int × Unit))) → (Option (((List IN) × Unit) × Unit)))) => (if (((Decidable.decide ((0 : Int) ≤ x4.2.1)) && (Decidable.decide (x4.2.1 < (((List.length x4.2.2.1) : Nat) : Int)))) = Bool.true) then
  (Option.bind (d14 x0 (x4.1.1, ((List.getD x4.2.2.1 (Int.toNat x4.2.1) ((0 : Int), ((0 : Int), ((0 : Int), (([] : List Int), ()))))), ()))) fun (x8 : (((List IN) × Unit) × Unit)) =>
  (x7 ((x8.1.1, ()), (x4.2.2.1, (x4.2.1, ())))))
  else (Option.none))))
  else (x2 ((x4.1.1, ()), ())))))))
def d5 : (Nat → (((List IN) × Unit) → (Option (((List IN) × Unit) × Unit)))) :=
  (fun (x0 : Nat) => (fun (x1 : ((List IN) × Unit)) => (shr d5_K1 (fun (x2 : ((((List IN) × Unit) × Unit) → (Option (((List IN) × Unit) × Unit)))) => (loopN (d5_L3 x0 x2) x0 ((([] : List IN), ()), ((0 : Int), (x1.1, ()))))))))
theorem k5 : c_fn Tryz.prog [(14, ⟨s14, d14⟩)] Tryz.f5 s5 h5 = some d5 := by kernel_rfl
/-- bulkhead/codec.NewWriter -/
def s9 : Sig := ⟨[], [((.ptr 55 (.pair (.sl 5 (.int .u8)) (.pair (.int .i64) .unit))), (.own (.ow (.pr (.ow .sh) .sh))))]⟩
 def h9 : Hint := (.seq .leaf
   (.seq .leaf
   .leaf))
def d9 : (Nat → (Unit → (Option ((((List Int) × (Int × Unit)) × Unit) × Unit)))) :=
  (fun (x0 : Nat) => (fun (x1 : Unit) => (Option.some (((([] : List Int), ((0 : Int), ())), ()), ()))))
theorem k9 : c_fn Tryz.prog [] Tryz.f9 s9 h9 = some d9 := by kernel_rfl
/-- bulkhead/codec.big -/
def s26 : Sig := ⟨[((.int .u64), .val), ((.int .i64), .val)], [((.sl 5 (.int .u8)), (.own (.ow .sh)))]⟩
 def h26 : Hint := (.seq .leaf
   (.seq .leaf
   (.seq (.seq .leaf
   (.block ⟨[((.sl 5 (.int .u8)), (.ow .sh), (5, 0))], [((5, 0), (.own 0))]⟩ true
     (.loop ⟨[((.sl 5 (.int .u8)), (.ow .sh), (5, 0))], [((11, 0), (.val (.int .i64))), ((1, 0), (.val (.int .i64))), ((0, 0), (.val (.int .u64))), ((5, 0), (.own 0)), ((10, 0), (.val (.int .i64)))]⟩
       (.seq .leaf
       (.seq (.cond none
         .leaf
         .leaf)
       (.seq (.block ⟨[((.sl 5 (.int .u8)), (.ow .sh), (5, 0))], [((1, 0), (.val (.int .i64))), ((0, 0), (.val (.int .u64))), ((5, 0), (.own 0)), ((10, 0), (.val (.int .i64))), ((11, 0), (.val (.int .i64)))]⟩ true
         (.seq .leaf
         .leaf))
       .leaf))))))
   (.seq .leaf
   .leaf))))
def d26_K1  : ((((List Int) × Unit) × Unit) → (Option (((List Int) × Unit) × Unit))) :=
  (fun (x3 : (((List Int) × Unit) × Unit)) => (Option.some ((x3.1.1, ()), ())))
def d26_K2 (x4 : ((((List Int) × Unit) × (Int × (Int × (Int × (Int × Unit))))) → (Option (((List Int) × Unit) × Unit)))) : ((((List Int) × Unit) × (Int × (Int × (Int × (Int × Unit))))) → (Option (((List Int) × Unit) × Unit))) :=
  (fun (x7 : (((List Int) × Unit) × (Int × (Int × (Int × (Int × Unit)))))) => (x4 ((x7.1.1, ()), ((Go.IntKind.wrap Go.IntKind.i64 (x7.2.2.2.2.1 + (1 : Int))), (x7.2.1, (x7.2.2.1, (x7.2.2.2.1, ())))))))
def d26_L3 (x3 : ((((List Int) × Unit) × Unit) → (Option (((List Int) × Unit) × Unit)))) : (((((List Int) × Unit) × (Int × (Int × (Int × (Int × Unit))))) → (Option (((List Int) × Unit) × Unit))) → ((((List Int) × Unit) × (Int × (Int × (Int × (Int × Unit))))) → (Option (((List Int) × Unit) × Unit)))) :=
  (fun (x4 : ((((List Int) × Unit) × (Int × (Int × (Int × (Int × Unit))))) → (Option (((List Int) × Unit) × Unit)))) => (fun (x5 : (((List Int) × Unit) × (Int × (Int × (Int × (Int × Unit)))))) => (lt (Decidable.decide (x5.2.1 < x5.2.2.2.2.1)) fun (x6 : Bool) =>
  (if (x6 = Bool.true) then
  (shr (d26_K2 x4) (fun (x7 : ((((List Int) × Unit) × (Int × (Int × (Int × (Int × Unit))))) → (Option (((List Int) × Unit) × Unit)))) => (lt (Go.IntKind.wrap Go.IntKind.i64 (x5.2.2.1 - (1 : Int))) fun (x8 : Int) =>
  (lt (Go.IntKind.wrap Go.IntKind.i64 (x8 - x5.2.1)) fun (x9 : Int) =>
  (lt (Go.IntKind.wrap Go.IntKind.i64 ((8 : Int) * x9)) fun (x10 : Int) =>
  (if ((Bool.not (Decidable.decide (x10 < (0 : Int)))) = Bool.true) then
  (lt (Int.fdiv x5.2.2.2.1 (HPow.hPow (2 : Int) (Min.min (Int.toNat x10) (Go.IntKind.bits Go.IntKind.u64)))) fun (x11 : Int) =>
  (lt (Go.IntKind.wrap Go.IntKind.u8 x11) fun (x12 : Int) =>
  (if (((Decidable.decide ((0 : Int) ≤ x5.2.1)) && (Decidable.decide (x5.2.1 < (((List.length x5.1.1) : Nat) : Int)))) = Bool.true) then
  (if (((Decidable.decide ((Int.toNat x5.2.1) < (List.length x5.1.1))) && Bool.true) = Bool.true) then
  (x7 (((List.set x5.1.1 (Int.toNat x5.2.1) x12), ()), (x5.2.2.1, (x5.2.2.2.1, (x5.2.2.2.2.1, (x5.2.1, ()))))))
  else (Option.none))
  else (Option.none))))
  else (Option.none)))))))
  else (x3 ((x5.1.1, ()), ()))))))
def d26 : (Nat → ((Int × (Int × Unit)) → (Option (((List Int) × Unit) × Unit)))) :=
  (fun (x0 : Nat) => (fun (x1 : (Int × (Int × Unit))) => (if (((((Decidable.decide ((0 : Int) ≤ x1.2.1)) && (Decidable.decide (x1.2.1 ≤ x1.2.1))) && (Decidable.decide (((((1 : Nat) : Nat) : Int) * x1.2.1) ≤ (281474976710656 : Int)))) && (Decidable.decide (x1.2.1 ≤ (9223372036854775807 : Int)))) = Bool.true) then
  (lt (List.replicate (Int.toNat x1.2.1) (0 : Int)) fun (x2 : (List Int)) =>
  (shr d26_K1 (fun (x3 : ((((List Int) × Unit) × Unit) → (Option (((List Int) × Unit) × Unit)))) => (loopN (d26_L3 x3) x0 ((x2, ()), ((0 : Int), (x1.2.1, (x1.1, ((((List.length x2) : Nat) : Int), ())))))))))
  else (Option.none))))
theorem k26 : c_fn Tryz.prog [] Tryz.f26 s26 h26 = some d26 := by kernel_rfl
/-- bulkhead/codec.PutList[bulkhead/api.Input]$1 -/
def s25 : Sig := ⟨[((.ptr 22 (.sl 25 (.pair (.int .i64) (.pair (.int .i64) (.pair (.int .i64) (.pair (.sl 2 (.int .i64)) .unit)))))), .val), ((.ptr 3 (.int .i64)), .val)], [((.sl 5 (.int .u8)), (.own (.ow .sh))), ((.int .i64), .val)]⟩
 def h25 : Hint := (.seq .leaf
   (.seq (.seq .leaf
   (.cond none
     (.seq .leaf
     .leaf)
     .leaf))
   (.seq .leaf
   .leaf)))
def d25 : (Nat → (((List IN) × (Int × Unit)) → (Option (((List Int) × (Int × Unit)) × Unit)))) :=
  (fun (x0 : Nat) => (fun (x1 : ((List IN) × (Int × Unit))) => (lt (((List.length x1.1) : Nat) : Int) fun (x2 : Int) =>
  (lt (Decidable.decide (x2 > x1.2.1)) fun (x3 : Bool) =>
  (if (x3 = Bool.true) then
  (Option.some ((([] : List Int), ((1 : Int), ())), ()))
  else (Option.bind (d26 x0 ((Go.IntKind.wrap Go.IntKind.u64 (((List.length x1.1) : Nat) : Int)), ((4 : Int), ()))) fun (x4 : (((List Int) × Unit) × Unit)) =>
  (Option.some ((x4.1.1, ((0 : Int), ())), ()))))))))
theorem k25 : c_fn Tryz.prog [(26, ⟨s26, d26⟩)] Tryz.f25 s25 h25 = some d25 := by kernel_rfl
/-- (*bulkhead/codec.Writer).I64$1 -/
def s44 : Sig := ⟨[((.ptr 2 (.int .i64)), .val)], [((.sl 5 (.int .u8)), (.own (.ow .sh))), ((.int .i64), .val)]⟩
 def h44 : Hint := (.seq .leaf
   (.seq .leaf
   .leaf))
def d44 : (Nat → ((Int × Unit) → (Option (((List Int) × (Int × Unit)) × Unit)))) :=
  (fun (x0 : Nat) => (fun (x1 : (Int × Unit)) => (Option.bind (d26 x0 ((Go.IntKind.wrap Go.IntKind.u64 x1.1), ((8 : Int), ()))) fun (x2 : (((List Int) × Unit) × Unit)) =>
  (Option.some ((x2.1.1, ((0 : Int), ())), ())))))
theorem k44 : c_fn Tryz.prog [(26, ⟨s26, d26⟩)] Tryz.f44 s44 h44 = some d44 := by kernel_rfl
/-- (*bulkhead/codec.Writer).do -/
def s24 : Sig := ⟨[((.ptr 55 (.pair (.sl 5 (.int .u8)) (.pair (.int .i64) .unit))), (.mut (.ow (.pr (.ow .sh) .sh)))), ((.fn 44 (.pair (.ptr 2 (.int .i64)) .unit)), .val)], []⟩
 def h24 : Hint := (.seq (.seq .leaf
   (.cond none
     .leaf
     .leaf))
   (.seq .leaf
   (.seq (.seq .leaf
   (.cond none
     (.seq .leaf
     .leaf)
     .leaf))
   .leaf)))
def d24 : (Nat → ((((List Int) × (Int × Unit)) × ((Int × Unit) × Unit)) → (Option (Unit × (((List Int) × (Int × Unit)) × Unit))))) :=
  (fun (x0 : Nat) => (fun (x1 : (((List Int) × (Int × Unit)) × ((Int × Unit) × Unit))) => (lt (x1.1.2.1 != (0 : Int)) fun (x2 : Bool) =>
  (if (x2 = Bool.true) then
  (Option.some ((), (x1.1, ())))
  else (Option.bind (d44 x0 (x1.2.1.1, ())) fun (x3 : (((List Int) × (Int × Unit)) × Unit)) =>
  (lt (x3.1.2.1 != (0 : Int)) fun (x4 : Bool) =>
  (if (x4 = Bool.true) then
  (Option.some ((), ((x1.1.1, (x3.1.2.1, x1.1.2.2)), ())))
  else (if ((Bool.true && (Go.Lift.appFits (List.length x1.1.1) (List.length x3.1.1) (1 : Nat))) = Bool.true) then
  (Option.some ((), (((x1.1.1 ++ x3.1.1), x1.1.2), ())))
  else (Option.none)))))))))
theorem k24 : c_fn Tryz.prog [(44, ⟨s44, d44⟩)] Tryz.f24 s24 h24 = some d24 := by kernel_rfl
/-- bulkhead/codec.PutList[int64]$1 -/
def s45 : Sig := ⟨[((.ptr 23 (.sl 2 (.int .i64))), .val), ((.ptr 3 (.int .i64)), .val)], [((.sl 5 (.int .u8)), (.own (.ow .sh))), ((.int .i64), .val)]⟩
 def h45 : Hint := (.seq .leaf
   (.seq (.seq .leaf
   (.cond none
     (.seq .leaf
     .leaf)
     .leaf))
   (.seq .leaf
   .leaf)))
def d45 : (Nat → (((List Int) × (Int × Unit)) → (Option (((List Int) × (Int × Unit)) × Unit)))) :=
  (fun (x0 : Nat) => (fun (x1 : ((List Int) × (Int × Unit))) => (lt (((List.length x1.1) : Nat) : Int) fun (x2 : Int) =>
  (lt (Decidable.decide (x2 > x1.2.1)) fun (x3 : Bool) =>
  (if (x3 = Bool.true) then
  (Option.some ((([] : List Int), ((1 : Int), ())), ()))
  else (Option.bind (d26 x0 ((Go.IntKind.wrap Go.IntKind.u64 (((List.length x1.1) : Nat) : Int)), ((4 : Int), ()))) fun (x4 : (((List Int) × Unit) × Unit)) =>
  (Option.some ((x4.1.1, ((0 : Int), ())), ()))))))))
theorem k45 : c_fn Tryz.prog [(26, ⟨s26, d26⟩)] Tryz.f45 s45 h45 = some d45 := by kernel_rfl
/-- (*bulkhead/codec.Writer).do -/
def s24x1 : Sig := ⟨[((.ptr 55 (.pair (.sl 5 (.int .u8)) (.pair (.int .i64) .unit))), (.mut (.ow (.pr (.ow .sh) .sh)))), ((.fn 45 (.pair (.ptr 23 (.sl 2 (.int .i64))) (.pair (.ptr 3 (.int .i64)) .unit))), .val)], []⟩
 def h24x1 : Hint := (.seq (.seq .leaf
   (.cond none
     .leaf
     .leaf))
   (.seq .leaf
   (.seq (.seq .leaf
   (.cond none
     (.seq .leaf
     .leaf)
     .leaf))
   .leaf)))
def d24x1 : (Nat → ((((List Int) × (Int × Unit)) × (((List Int) × (Int × Unit)) × Unit)) → (Option (Unit × (((List Int) × (Int × Unit)) × Unit))))) :=
  (fun (x0 : Nat) => (fun (x1 : (((List Int) × (Int × Unit)) × (((List Int) × (Int × Unit)) × Unit))) => (lt (x1.1.2.1 != (0 : Int)) fun (x2 : Bool) =>
  (if (x2 = Bool.true) then
  (Option.some ((), (x1.1, ())))
  else (Option.bind (d45 x0 (x1.2.1.1, (x1.2.1.2.1, ()))) fun (x3 : (((List Int) × (Int × Unit)) × Unit)) =>
  (lt (x3.1.2.1 != (0 : Int)) fun (x4 : Bool) =>
  (if (x4 = Bool.true) then
  (Option.some ((), ((x1.1.1, (x3.1.2.1, x1.1.2.2)), ())))
  else (if ((Bool.true && (Go.Lift.appFits (List.length x1.1.1) (List.length x3.1.1) (1 : Nat))) = Bool.true) then
  (Option.some ((), (((x1.1.1 ++ x3.1.1), x1.1.2), ())))
  else (Option.none)))))))))
theorem k24x1 : c_fn Tryz.prog [(45, ⟨s45, d45⟩)] Tryz.f24 s24x1 h24x1 = some d24x1 := by kernel_rfl
/-- (*bulkhead/codec.Writer).do -/
def s24x2 : Sig := ⟨[((.ptr 55 (.pair (.sl 5 (.int .u8)) (.pair (.int .i64) .unit))), (.mut (.ow (.pr (.ow .sh) .sh)))), ((.fn 25 (.pair (.ptr 22 (.sl 25 (.pair (.int .i64) (.pair (.int .i64) (.pair (.int .i64) (.pair (.sl 2 (.int .i64)) .unit)))))) (.pair (.ptr 3 (.int .i64)) .unit))), .val)], []⟩
 def h24x2 : Hint := (.seq (.seq .leaf
   (.cond none
     .leaf
     .leaf))
   (.seq .leaf
   (.seq (.seq .leaf
   (.cond none
     (.seq .leaf
     .leaf)
     .leaf))
   .leaf)))
def d24x2 : (Nat → ((((List Int) × (Int × Unit)) × (((List IN) × (Int × Unit)) × Unit)) → (Option (Unit × (((List Int) × (Int × Unit)) × Unit))))) :=
  (fun (x0 : Nat) => (fun (x1 : (((List Int) × (Int × Unit)) × (((List IN) × (Int × Unit)) × Unit))) => (lt (x1.1.2.1 != (0 : Int)) fun (x2 : Bool) =>
  (if (x2 = Bool.true) then
  (Option.some ((), (x1.1, ())))
  else (Option.bind (d25 x0 (x1.2.1.1, (x1.2.1.2.1, ()))) fun (x3 : (((List Int) × (Int × Unit)) × Unit)) =>
  (lt (x3.1.2.1 != (0 : Int)) fun (x4 : Bool) =>
  (if (x4 = Bool.true) then
  (Option.some ((), ((x1.1.1, (x3.1.2.1, x1.1.2.2)), ())))
  else (if ((Bool.true && (Go.Lift.appFits (List.length x1.1.1) (List.length x3.1.1) (1 : Nat))) = Bool.true) then
  (Option.some ((), (((x1.1.1 ++ x3.1.1), x1.1.2), ())))
  else (Option.none)))))))))
theorem k24x2 : c_fn Tryz.prog [(25, ⟨s25, d25⟩)] Tryz.f24 s24x2 h24x2 = some d24x2 := by kernel_rfl
/-- (*bulkhead/codec.Writer).I64 -/
def s27 : Sig := ⟨[((.ptr 55 (.pair (.sl 5 (.int .u8)) (.pair (.int .i64) .unit))), (.mut (.ow (.pr (.ow .sh) .sh)))), ((.int .i64), .val)], []⟩
 def h27 : Hint := (.seq .leaf
   (.pre ⟨[((.ptr 55 (.pair (.sl 5 (.int .u8)) (.pair (.int .i64) .unit))), (.ow (.pr (.ow .sh) .sh)), (0, 0))], [((0, 0), (.own 0)), ((3, 0), (.val (.ptr 2 (.int .i64))))]⟩ .leaf))
def d27 : (Nat → ((((List Int) × (Int × Unit)) × (Int × Unit)) → (Option (Unit × (((List Int) × (Int × Unit)) × Unit))))) :=
  (fun (x0 : Nat) => (fun (x1 : (((List Int) × (Int × Unit)) × (Int × Unit))) => (Option.bind (d24 x0 (x1.1, ((x1.2.1, ()), ()))) fun (x2 : (Unit × (((List Int) × (Int × Unit)) × Unit))) =>
  (Option.some ((), (x2.2.1, ()))))))
theorem k27 : c_fn Tryz.prog [(44, ⟨s44, d44⟩), (24, ⟨s24x2, d24x2⟩), (24, ⟨s24x1, d24x1⟩), (24, ⟨s24, d24⟩)] Tryz.f27 s27 h27 = some d27 := by kernel_rfl
/-- bulkhead/codec.PutList[int64] -/
def s28 : Sig := ⟨[((.ptr 55 (.pair (.sl 5 (.int .u8)) (.pair (.int .i64) .unit))), (.mut (.ow (.pr (.ow .sh) .sh)))), ((.sl 2 (.int .i64)), .val), ((.int .i64), .val), ((.fn 27 .unit), .val)], []⟩
 def h28 : Hint := (.seq .leaf
   (.seq (.pre ⟨[((.ptr 55 (.pair (.sl 5 (.int .u8)) (.pair (.int .i64) .unit))), (.ow (.pr (.ow .sh) .sh)), (0, 0))], [((0, 0), (.own 0)), ((3, 0), (.val (.fn 27 .unit))), ((5, 0), (.val (.ptr 23 (.sl 2 (.int .i64))))), ((6, 0), (.val (.ptr 3 (.int .i64))))]⟩ .leaf)
   (.seq .leaf
   (.block ⟨[((.ptr 55 (.pair (.sl 5 (.int .u8)) (.pair (.int .i64) .unit))), (.ow (.pr (.ow .sh) .sh)), (0, 0))], [((0, 0), (.own 0))]⟩ true
     (.loop ⟨[((.ptr 55 (.pair (.sl 5 (.int .u8)) (.pair (.int .i64) .unit))), (.ow (.pr (.ow .sh) .sh)), (0, 0))], [((0, 0), (.own 0)), ((15, 0), (.val (.int .i64))), ((3, 0), (.val (.fn 27 .unit))), ((13, 0), (.val (.sl 2 (.int .i64)))), ((14, 0), (.val (.int .i64)))]⟩
       (.seq .leaf
       (.seq (.cond none
         .leaf
         .leaf)
       (.seq (.block ⟨[((.ptr 55 (.pair (.sl 5 (.int .u8)) (.pair (.int .i64) .unit))), (.ow (.pr (.ow .sh) .sh)), (0, 0))], [((0, 0), (.own 0)), ((3, 0), (.val (.fn 27 .unit))), ((13, 0), (.val (.sl 2 (.int .i64)))), ((14, 0), (.val (.int .i64))), ((15, 0), (.val (.int .i64)))]⟩ true
         (.seq .leaf
         (.seq (.seq .leaf
         (.cond none
           .leaf
           .leaf))
         .leaf)))
       .leaf))))))))
def d28_K1  : (((((List Int) × (Int × Unit)) × Unit) × Unit) → (Option (Unit × (((List Int) × (Int × Unit)) × Unit)))) :=
  (fun (x3 : ((((List Int) × (Int × Unit)) × Unit) × Unit)) => (Option.some ((), (x3.1.1, ()))))
def d28_K2 (x4 : (((((List Int) × (Int × Unit)) × Unit) × (Int × (Unit × ((List Int) × (Int × Unit))))) → (Option (Unit × (((List Int) × (Int × Unit)) × Unit))))) : (((((List Int) × (Int × Unit)) × Unit) × (Unit × ((List Int) × (Int × (Int × Unit))))) → (Option (Unit × (((List Int) × (Int × Unit)) × Unit)))) :=
  (fun (x7 : ((((List Int) × (Int × Unit)) × Unit) × (Unit × ((List Int) × (Int × (Int × Unit)))))) => (x4 ((x7.1.1, ()), ((Go.IntKind.wrap Go.IntKind.i64 (x7.2.2.2.2.1 + (1 : Int))), (x7.2.1, (x7.2.2.1, (x7.2.2.2.1, ())))))))
def d28_L3 (x0 : Nat) (x3 : (((((List Int) × (Int × Unit)) × Unit) × Unit) → (Option (Unit × (((List Int) × (Int × Unit)) × Unit))))) : ((((((List Int) × (Int × Unit)) × Unit) × (Int × (Unit × ((List Int) × (Int × Unit))))) → (Option (Unit × (((List Int) × (Int × Unit)) × Unit)))) → (((((List Int) × (Int × Unit)) × Unit) × (Int × (Unit × ((List Int) × (Int × Unit))))) → (Option (Unit × (((List Int) × (Int × Unit)) × Unit))))) :=
  (fun (x4 : (((((List Int) × (Int × Unit)) × Unit) × (Int × (Unit × ((List Int) × (Int × Unit))))) → (Option (Unit × (((List Int) × (Int × Unit)) × Unit))))) => (fun (x5 : ((((List Int) × (Int × Unit)) × Unit) × (Int × (Unit × ((List Int) × (Int × Unit)))))) => (lt (Decidable.decide (x5.2.1 < x5.2.2.2.2.1)) fun (x6 : Bool) =>
  (if (x6 = Bool.true) then
  (shr (d28_K2 x4) (fun (x7 : (((((List Int) × (Int × Unit)) × Unit) × (Unit × ((List Int) × (Int × (Int × Unit))))) → (Option (Unit × (((List Int) × (Int × Unit)) × Unit))))) => (if (((Decidable.decide ((0 : Int) ≤ x5.2.1)) && (Decidable.decide (x5.2.1 < (((List.length x5.2.2.2.1) : Nat) : Int)))) = Bool.true) then
  (lt (List.getD x5.2.2.2.1 (Int.toNat x5.2.1) (0 : Int)) fun (x8 : Int) =>
  (lt (x5.1.1.2.1 != (0 : Int)) fun (x9 : Bool) =>
  (if (x9 = Bool.true) then
  (Option.some ((), (x5.1.1, ())))
  else (Option.bind (d27 x0 (x5.1.1, (x8, ()))) fun (x10 : (Unit × (((List Int) × (Int × Unit)) × Unit))) =>
  (x7 ((x10.2.1, ()), (x5.2.2.1, (x5.2.2.2.1, (x5.2.2.2.2.1, (x5.2.1, ()))))))))))
  else (Option.none))))
  else (x3 ((x5.1.1, ()), ()))))))
def d28 : (Nat → ((((List Int) × (Int × Unit)) × ((List Int) × (Int × (Unit × Unit)))) → (Option (Unit × (((List Int) × (Int × Unit)) × Unit))))) :=
  (fun (x0 : Nat) => (fun (x1 : (((List Int) × (Int × Unit)) × ((List Int) × (Int × (Unit × Unit))))) => (Option.bind (d24x1 x0 (x1.1, ((x1.2.1, (x1.2.2.1, ())), ()))) fun (x2 : (Unit × (((List Int) × (Int × Unit)) × Unit))) =>
  (shr d28_K1 (fun (x3 : (((((List Int) × (Int × Unit)) × Unit) × Unit) → (Option (Unit × (((List Int) × (Int × Unit)) × Unit))))) => (loopN (d28_L3 x0 x3) x0 ((x2.2.1, ()), ((0 : Int), (x1.2.2.2.1, (x1.2.1, ((((List.length x1.2.1) : Nat) : Int), ())))))))))))
theorem k28 : c_fn Tryz.prog [(45, ⟨s45, d45⟩), (24, ⟨s24x2, d24x2⟩), (24, ⟨s24x1, d24x1⟩), (24, ⟨s24, d24⟩), (27, ⟨s27, d27⟩)] Tryz.f28 s28 h28 = some d28 := by kernel_rfl
/-- bulkhead/script.put -/
def s11 : Sig := ⟨[((.ptr 55 (.pair (.sl 5 (.int .u8)) (.pair (.int .i64) .unit))), (.mut (.ow (.pr (.ow .sh) .sh)))), ((.pair (.int .i64) (.pair (.int .i64) (.pair (.int .i64) (.pair (.sl 2 (.int .i64)) .unit)))), .val)], []⟩
 def h11 : Hint := (.seq .leaf
   (.seq .leaf
   (.seq .leaf
   (.seq .leaf
   .leaf))))
def d11 : (Nat → ((((List Int) × (Int × Unit)) × (IN × Unit)) → (Option (Unit × (((List Int) × (Int × Unit)) × Unit))))) :=
  (fun (x0 : Nat) => (fun (x1 : (((List Int) × (Int × Unit)) × (IN × Unit))) => (Option.bind (d27 x0 (x1.1, (x1.2.1.1, ()))) fun (x2 : (Unit × (((List Int) × (Int × Unit)) × Unit))) =>
  (Option.bind (d27 x0 (x2.2.1, (x1.2.1.2.1, ()))) fun (x3 : (Unit × (((List Int) × (Int × Unit)) × Unit))) =>
  (Option.bind (d27 x0 (x3.2.1, (x1.2.1.2.2.1, ()))) fun (x4 : (Unit × (((List Int) × (Int × Unit)) × Unit))) =>
  (Option.bind (d28 x0 (x4.2.1, (x1.2.1.2.2.2.1, ((4194316 : Int), ((), ()))))) fun (x5 : (Unit × (((List Int) × (Int × Unit)) × Unit))) =>
  (Option.some ((), (x5.2.1, ())))))))))
theorem k11 : c_fn Tryz.prog [(27, ⟨s27, d27⟩), (28, ⟨s28, d28⟩)] Tryz.f11 s11 h11 = some d11 := by kernel_rfl
/-- bulkhead/codec.PutList[bulkhead/api.Input] -/
def s10 : Sig := ⟨[((.ptr 55 (.pair (.sl 5 (.int .u8)) (.pair (.int .i64) .unit))), (.mut (.ow (.pr (.ow .sh) .sh)))), ((.sl 25 (.pair (.int .i64) (.pair (.int .i64) (.pair (.int .i64) (.pair (.sl 2 (.int .i64)) .unit))))), .val), ((.int .i64), .val), ((.fn 11 .unit), .val)], []⟩
 def h10 : Hint := (.seq .leaf
   (.seq (.pre ⟨[((.ptr 55 (.pair (.sl 5 (.int .u8)) (.pair (.int .i64) .unit))), (.ow (.pr (.ow .sh) .sh)), (0, 0))], [((0, 0), (.own 0)), ((3, 0), (.val (.fn 11 .unit))), ((5, 0), (.val (.ptr 22 (.sl 25 (.pair (.int .i64) (.pair (.int .i64) (.pair (.int .i64) (.pair (.sl 2 (.int .i64)) .unit)))))))), ((6, 0), (.val (.ptr 3 (.int .i64))))]⟩ .leaf)
   (.seq .leaf
   (.block ⟨[((.ptr 55 (.pair (.sl 5 (.int .u8)) (.pair (.int .i64) .unit))), (.ow (.pr (.ow .sh) .sh)), (0, 0))], [((0, 0), (.own 0))]⟩ true
     (.loop ⟨[((.ptr 55 (.pair (.sl 5 (.int .u8)) (.pair (.int .i64) .unit))), (.ow (.pr (.ow .sh) .sh)), (0, 0))], [((0, 0), (.own 0)), ((15, 0), (.val (.int .i64))), ((3, 0), (.val (.fn 11 .unit))), ((13, 0), (.val (.sl 25 (.pair (.int .i64) (.pair (.int .i64) (.pair (.int .i64) (.pair (.sl 2 (.int .i64)) .unit))))))), ((14, 0), (.val (.int .i64)))]⟩
       (.seq .leaf
       (.seq (.cond none
         .leaf
         .leaf)
       (.seq (.block ⟨[((.ptr 55 (.pair (.sl 5 (.int .u8)) (.pair (.int .i64) .unit))), (.ow (.pr (.ow .sh) .sh)), (0, 0))], [((0, 0), (.own 0)), ((3, 0), (.val (.fn 11 .unit))), ((13, 0), (.val (.sl 25 (.pair (.int .i64) (.pair (.int .i64) (.pair (.int .i64) (.pair (.sl 2 (.int .i64)) .unit))))))), ((14, 0), (.val (.int .i64))), ((15, 0), (.val (.int .i64)))]⟩ true
         (.seq .leaf
         (.seq (.seq .leaf
         (.cond none
           .leaf
           .leaf))
         .leaf)))
       .leaf))))))))
def d10_K1  : (((((List Int) × (Int × Unit)) × Unit) × Unit) → (Option (Unit × (((List Int) × (Int × Unit)) × Unit)))) :=
  (fun (x3 : ((((List Int) × (Int × Unit)) × Unit) × Unit)) => (Option.some ((), (x3.1.1, ()))))
def d10_K2 (x4 : (((((List Int) × (Int × Unit)) × Unit) × (Int × (Unit × ((List IN) × (Int × Unit))))) → (Option (Unit × (((List Int) × (Int × Unit)) × Unit))))) : (((((List Int) × (Int × Unit)) × Unit) × (Unit × ((List IN) × (Int × (Int × Unit))))) → (Option (Unit × (((List Int) × (Int × Unit)) × Unit)))) :=
  (fun (x7 : ((((List Int) × (Int × Unit)) × Unit) × (Unit × ((List IN) × (Int × (Int × Unit)))))) => (x4 ((x7.1.1, ()), ((Go.IntKind.wrap Go.IntKind.i64 (x7.2.2.2.2.1 + (1 : Int))), (x7.2.1, (x7.2.2.1, (x7.2.2.2.1, ())))))))
def d10_L3 (x0 : Nat) (x3 : (((((List Int) × (Int × Unit)) × Unit) × Unit) → (Option (Unit × (((List Int) × (Int × Unit)) × Unit))))) : ((((((List Int) × (Int × Unit)) × Unit) × (Int × (Unit × ((List IN) × (Int × Unit))))) → (Option (Unit × (((List Int) × (Int × Unit)) × Unit)))) → (((((List Int) × (Int × Unit)) × Unit) × (Int × (Unit × ((List IN) × (Int × Unit))))) → (Option (Unit × (((List Int) × (Int × Unit)) × Unit))))) :=
  (fun (x4 : (((((List Int) × (Int × Unit)) × Unit) × (Int × (Unit × ((List IN) × (Int × Unit))))) → (Option (Unit × (((List Int) × (Int × Unit)) × Unit))))) => (fun (x5 : ((((List Int) × (Int × Unit)) × Unit) × (Int × (Unit × ((List IN) × (Int × Unit)))))) => (lt (Decidable.decide (x5.2.1 < x5.2.2.2.2.1)) fun (x6 : Bool) =>
  (if (x6 = Bool.true) then
  (shr (d10_K2 x4) (fun (x7 : (((((List Int) × (Int × Unit)) × Unit) × (Unit × ((List IN) × (Int × (Int × Unit))))) → (Option (Unit × (((List Int) × (Int × Unit)) × Unit))))) => (if (((Decidable.decide ((0 : Int) ≤ x5.2.1)) && (Decidable.decide (x5.2.1 < (((List.length x5.2.2.2.1) : Nat) : Int)))) = Bool.true) then
  (lt (List.getD x5.2.2.2.1 (Int.toNat x5.2.1) ((0 : Int), ((0 : Int), ((0 : Int), (([] : List Int), ()))))) fun (x8 : IN) =>
  (lt (x5.1.1.2.1 != (0 : Int)) fun (x9 : Bool) =>
  (if (x9 = Bool.true) then
  (Option.some ((), (x5.1.1, ())))
  else (Option.bind (d11 x0 (x5.1.1, (x8, ()))) fun (x10 : (Unit × (((List Int) × (Int × Unit)) × Unit))) =>
  (x7 ((x10.2.1, ()), (x5.2.2.1, (x5.2.2.2.1, (x5.2.2.2.2.1, (x5.2.1, ()))))))))))
  else (Option.none))))
  else (x3 ((x5.1.1, ()), ()))))))
def d10 : (Nat → ((((List Int) × (Int × Unit)) × ((List IN) × (Int × (Unit × Unit)))) → (Option (Unit × (((List Int) × (Int × Unit)) × Unit))))) :=
  (fun (x0 : Nat) => (fun (x1 : (((List Int) × (Int × Unit)) × ((List IN) × (Int × (Unit × Unit))))) => (Option.bind (d24x2 x0 (x1.1, ((x1.2.1, (x1.2.2.1, ())), ()))) fun (x2 : (Unit × (((List Int) × (Int × Unit)) × Unit))) =>
  (shr d10_K1 (fun (x3 : (((((List Int) × (Int × Unit)) × Unit) × Unit) → (Option (Unit × (((List Int) × (Int × Unit)) × Unit))))) => (loopN (d10_L3 x0 x3) x0 ((x2.2.1, ()), ((0 : Int), (x1.2.2.2.1, (x1.2.1, ((((List.length x1.2.1) : Nat) : Int), ())))))))))))
theorem k10 : c_fn Tryz.prog [(25, ⟨s25, d25⟩), (24, ⟨s24x2, d24x2⟩), (24, ⟨s24x1, d24x1⟩), (24, ⟨s24, d24⟩), (11, ⟨s11, d11⟩)] Tryz.f10 s10 h10 = some d10 := by kernel_rfl
/-- bytes.Clone -/
def s29 : Sig := ⟨[((.sl 5 (.int .u8)), .val)], [((.sl 5 (.int .u8)), (.own (.ow .sh)))]⟩
def d29 (_ : Nat) (x : List Int × Unit) : Option ((List Int × Unit) × Unit) := if x.1.length ≤ 140737488355328 then some ((x.1, ()), ()) else none
/-- (*bulkhead/codec.Writer).Done -/
def s12 : Sig := ⟨[((.ptr 55 (.pair (.sl 5 (.int .u8)) (.pair (.int .i64) .unit))), .val)], [((.sl 5 (.int .u8)), (.own (.ow .sh))), ((.int .i64), .val)]⟩
 def h12 : Hint := (.seq .leaf
   (.seq (.seq .leaf
   (.cond none
     (.seq .leaf
     .leaf)
     .leaf))
   (.seq .leaf
   .leaf)))
def d12 : (Nat → ((((List Int) × (Int × Unit)) × Unit) → (Option (((List Int) × (Int × Unit)) × Unit)))) :=
  (fun (x0 : Nat) => (fun (x1 : (((List Int) × (Int × Unit)) × Unit)) => (lt (x1.1.2.1 != (0 : Int)) fun (x2 : Bool) =>
  (if (x2 = Bool.true) then
  (Option.some ((([] : List Int), (x1.1.2.1, ())), ()))
  else (Option.bind (d29 x0 (x1.1.1, ())) fun (x3 : (((List Int) × Unit) × Unit)) =>
  (Option.some ((x3.1.1, ((0 : Int), ())), ())))))))
theorem k12 : c_fn Tryz.prog [(29, ⟨s29, d29⟩)] Tryz.f12 s12 h12 = some d12 := by kernel_rfl
/-- bulkhead/codec.Sum -/
def s30 : Sig := ⟨[((.sl 5 (.int .u8)), .val)], [((.int .u32), .val)]⟩
 def h30 : Hint := (.seq .leaf
   (.seq .leaf
   (.seq (.seq .leaf
   (.block ⟨[], [((3, 0), (.val (.int .u32)))]⟩ true
     (.loop ⟨[], [((8, 0), (.val (.int .i64))), ((3, 0), (.val (.int .u32))), ((6, 0), (.val (.sl 5 (.int .u8)))), ((7, 0), (.val (.int .i64)))]⟩
       (.seq .leaf
       (.seq (.cond none
         .leaf
         .leaf)
       (.seq (.block ⟨[], [((3, 0), (.val (.int .u32))), ((6, 0), (.val (.sl 5 (.int .u8)))), ((7, 0), (.val (.int .i64))), ((8, 0), (.val (.int .i64)))]⟩ true
         (.seq .leaf
         (.seq .leaf
         (.seq .leaf
         (.block ⟨[], [((3, 0), (.val (.int .u32))), ((6, 0), (.val (.sl 5 (.int .u8)))), ((7, 0), (.val (.int .i64))), ((8, 0), (.val (.int .i64)))]⟩ true
           (.loop ⟨[], [((16, 0), (.val (.int .i64))), ((3, 0), (.val (.int .u32))), ((6, 0), (.val (.sl 5 (.int .u8)))), ((7, 0), (.val (.int .i64))), ((8, 0), (.val (.int .i64)))]⟩
             (.seq .leaf
             (.seq (.cond none
               .leaf
               .leaf)
             (.seq (.block ⟨[], [((3, 0), (.val (.int .u32))), ((6, 0), (.val (.sl 5 (.int .u8)))), ((7, 0), (.val (.int .i64))), ((8, 0), (.val (.int .i64))), ((16, 0), (.val (.int .i64)))]⟩ true
               .leaf)
             .leaf)))))))))
       .leaf))))))
   (.seq .leaf
   .leaf))))
def d30_K1  : ((Unit × (Int × Unit)) → (Option ((Int × Unit) × Unit))) :=
  (fun (x2 : (Unit × (Int × Unit))) => (Option.some (((Go.IntKind.wrap Go.IntKind.u32 (((BitVec.toNat ((BitVec.ofInt (Go.IntKind.bits Go.IntKind.u32) (Go.IntKind.max Go.IntKind.u32)) ^^^ (BitVec.ofInt (Go.IntKind.bits Go.IntKind.u32) x2.2.1))) : Nat) : Int)), ()), ())))
def d30_K2 (x3 : ((Unit × (Int × (Int × ((List Int) × (Int × Unit))))) → (Option ((Int × Unit) × Unit)))) : ((Unit × (Int × ((List Int) × (Int × (Int × Unit))))) → (Option ((Int × Unit) × Unit))) :=
  (fun (x6 : (Unit × (Int × ((List Int) × (Int × (Int × Unit)))))) => (x3 ((), ((Go.IntKind.wrap Go.IntKind.i64 (x6.2.2.2.2.1 + (1 : Int))), (x6.2.1, (x6.2.2.1, (x6.2.2.2.1, ())))))))
def d30_K3 (x6 : ((Unit × (Int × ((List Int) × (Int × (Int × Unit))))) → (Option ((Int × Unit) × Unit)))) : ((Unit × (Int × ((List Int) × (Int × (Int × Unit))))) → (Option ((Int × Unit) × Unit))) :=
  (fun (x7 : (Unit × (Int × ((List Int) × (Int × (Int × Unit)))))) => (x6 ((), (x7.2.1, (x7.2.2.1, (x7.2.2.2.1, (x7.2.2.2.2.1, ())))))))
def d30_K4 (x8 : ((Unit × (Int × (Int × ((List Int) × (Int × (Int × Unit)))))) → (Option ((Int × Unit) × Unit)))) : ((Unit × (Int × ((List Int) × (Int × (Int × (Int × Unit)))))) → (Option ((Int × Unit) × Unit))) :=
  (fun (x11 : (Unit × (Int × ((List Int) × (Int × (Int × (Int × Unit))))))) => (x8 ((), ((Go.IntKind.wrap Go.IntKind.i64 (x11.2.2.2.2.2.1 + (1 : Int))), (x11.2.1, (x11.2.2.1, (x11.2.2.2.1, (x11.2.2.2.2.1, ()))))))))
def d30_L5 (x7 : ((Unit × (Int × ((List Int) × (Int × (Int × Unit))))) → (Option ((Int × Unit) × Unit)))) : (((Unit × (Int × (Int × ((List Int) × (Int × (Int × Unit)))))) → (Option ((Int × Unit) × Unit))) → ((Unit × (Int × (Int × ((List Int) × (Int × (Int × Unit)))))) → (Option ((Int × Unit) × Unit)))) :=
  (fun (x8 : ((Unit × (Int × (Int × ((List Int) × (Int × (Int × Unit)))))) → (Option ((Int × Unit) × Unit)))) => (fun (x9 : (Unit × (Int × (Int × ((List Int) × (Int × (Int × Unit))))))) => (lt (Decidable.decide (x9.2.1 < (8 : Int))) fun (x10 : Bool) =>
  (if (x10 = Bool.true) then
  (shr (d30_K4 x8) (fun (x11 : ((Unit × (Int × ((List Int) × (Int × (Int × (Int × Unit)))))) → (Option ((Int × Unit) × Unit)))) => (if ((Bool.not (Decidable.decide ((1 : Int) < (0 : Int)))) = Bool.true) then
  (x11 ((), ((Go.IntKind.wrap Go.IntKind.u32 (((BitVec.toNat ((BitVec.ofInt (Go.IntKind.bits Go.IntKind.u32) (Int.fdiv x9.2.2.1 (HPow.hPow (2 : Int) (Min.min (Int.toNat (1 : Int)) (Go.IntKind.bits Go.IntKind.u32))))) ^^^ (BitVec.ofInt (Go.IntKind.bits Go.IntKind.u32) (Go.IntKind.wrap Go.IntKind.u32 ((3988292384 : Int) * (Go.IntKind.wrap Go.IntKind.u32 (((BitVec.toNat ((BitVec.ofInt (Go.IntKind.bits Go.IntKind.u32) x9.2.2.1) &&& (BitVec.ofInt (Go.IntKind.bits Go.IntKind.u32) (1 : Int)))) : Nat) : Int))))))) : Nat) : Int)), (x9.2.2.2.1, (x9.2.2.2.2.1, (x9.2.2.2.2.2.1, (x9.2.1, ())))))))
  else (Option.none))))
  else (x7 ((), (x9.2.2.1, (x9.2.2.2.1, (x9.2.2.2.2.1, (x9.2.2.2.2.2.1, ()))))))))))
def d30_L6 (x0 : Nat) (x2 : ((Unit × (Int × Unit)) → (Option ((Int × Unit) × Unit)))) : (((Unit × (Int × (Int × ((List Int) × (Int × Unit))))) → (Option ((Int × Unit) × Unit))) → ((Unit × (Int × (Int × ((List Int) × (Int × Unit))))) → (Option ((Int × Unit) × Unit)))) :=
  (fun (x3 : ((Unit × (Int × (Int × ((List Int) × (Int × Unit))))) → (Option ((Int × Unit) × Unit)))) => (fun (x4 : (Unit × (Int × (Int × ((List Int) × (Int × Unit)))))) => (lt (Decidable.decide (x4.2.1 < x4.2.2.2.2.1)) fun (x5 : Bool) =>
  (if (x5 = Bool.true) then
  (shr (d30_K2 x3) (fun (x6 : ((Unit × (Int × ((List Int) × (Int × (Int × Unit))))) → (Option ((Int × Unit) × Unit)))) => (if (((Decidable.decide ((0 : Int) ≤ x4.2.1)) && (Decidable.decide (x4.2.1 < (((List.length x4.2.2.2.1) : Nat) : Int)))) = Bool.true) then
  (shr (d30_K3 x6) (fun (x7 : ((Unit × (Int × ((List Int) × (Int × (Int × Unit))))) → (Option ((Int × Unit) × Unit)))) => (loopN (d30_L5 x7) x0 ((), ((0 : Int), ((Go.IntKind.wrap Go.IntKind.u32 (((BitVec.toNat ((BitVec.ofInt (Go.IntKind.bits Go.IntKind.u32) x4.2.2.1) ^^^ (BitVec.ofInt (Go.IntKind.bits Go.IntKind.u32) (Go.IntKind.wrap Go.IntKind.u32 (List.getD x4.2.2.2.1 (Int.toNat x4.2.1) (0 : Int)))))) : Nat) : Int)), (x4.2.2.2.1, (x4.2.2.2.2.1, (x4.2.1, ())))))))))
  else (Option.none))))
  else (x2 ((), (x4.2.2.1, ())))))))
def d30 : (Nat → (((List Int) × Unit) → (Option ((Int × Unit) × Unit)))) :=
  (fun (x0 : Nat) => (fun (x1 : ((List Int) × Unit)) => (shr d30_K1 (fun (x2 : ((Unit × (Int × Unit)) → (Option ((Int × Unit) × Unit)))) => (loopN (d30_L6 x0 x2) x0 ((), ((0 : Int), ((4294967295 : Int), (x1.1, ((((List.length x1.1) : Nat) : Int), ()))))))))))
theorem k30 : c_fn Tryz.prog [] Tryz.f30 s30 h30 = some d30 := by kernel_rfl
/-- bulkhead/codec.Seal -/
def s13 : Sig := ⟨[((.int .u8), .val), ((.sl 5 (.int .u8)), .val)], [((.sl 5 (.int .u8)), (.own (.ow .sh))), ((.int .i64), .val)]⟩
 def h13 : Hint := (.seq .leaf
   (.seq (.seq .leaf
   (.cond none
     (.seq .leaf
     .leaf)
     .leaf))
   (.seq .leaf
   (.seq .leaf
   (.seq .leaf
   (.seq .leaf
   .leaf))))))
def d13 : (Nat → ((Int × ((List Int) × Unit)) → (Option (((List Int) × (Int × Unit)) × Unit)))) :=
  (fun (x0 : Nat) => (fun (x1 : (Int × ((List Int) × Unit))) => (lt (((List.length x1.2.1) : Nat) : Int) fun (x2 : Int) =>
  (lt (Decidable.decide (x2 > (4194304 : Int))) fun (x3 : Bool) =>
  (if (x3 = Bool.true) then
  (Option.some ((([] : List Int), ((1 : Int), ())), ()))
  else (lt ((66 : Int) :: ((75 : Int) :: (x1.1 :: ((1 : Int) :: ([] : List Int))))) fun (x4 : (List Int)) =>
  (lt (((List.length x1.2.1) : Nat) : Int) fun (x5 : Int) =>
  (lt (Go.IntKind.wrap Go.IntKind.u64 x5) fun (x6 : Int) =>
  (Option.bind (d26 x0 (x6, ((4 : Int), ()))) fun (x7 : (((List Int) × Unit) × Unit)) =>
  (if ((Go.Lift.appFits (List.length x4) (List.length x7.1.1) (1 : Nat)) = Bool.true) then
  (lt (x4 ++ x7.1.1) fun (x8 : (List Int)) =>
  (if ((Go.Lift.appFits (List.length x8) (List.length x1.2.1) (1 : Nat)) = Bool.true) then
  (lt (x8 ++ x1.2.1) fun (x9 : (List Int)) =>
  (Option.bind (d30 x0 (x9, ())) fun (x10 : ((Int × Unit) × Unit)) =>
  (lt (Go.IntKind.wrap Go.IntKind.u8 x10.1.1) fun (x11 : Int) =>
  (if ((Bool.not (Decidable.decide ((8 : Int) < (0 : Int)))) = Bool.true) then
  (lt (Int.fdiv x10.1.1 (HPow.hPow (2 : Int) (Min.min (Int.toNat (8 : Int)) (Go.IntKind.bits Go.IntKind.u32)))) fun (x12 : Int) =>
  (lt (Go.IntKind.wrap Go.IntKind.u8 x12) fun (x13 : Int) =>
  (if ((Bool.not (Decidable.decide ((16 : Int) < (0 : Int)))) = Bool.true) then
  (lt (Int.fdiv x10.1.1 (HPow.hPow (2 : Int) (Min.min (Int.toNat (16 : Int)) (Go.IntKind.bits Go.IntKind.u32)))) fun (x14 : Int) =>
  (lt (Go.IntKind.wrap Go.IntKind.u8 x14) fun (x15 : Int) =>
  (if ((Bool.not (Decidable.decide ((24 : Int) < (0 : Int)))) = Bool.true) then
  (lt (Int.fdiv x10.1.1 (HPow.hPow (2 : Int) (Min.min (Int.toNat (24 : Int)) (Go.IntKind.bits Go.IntKind.u32)))) fun (x16 : Int) =>
  (lt (Go.IntKind.wrap Go.IntKind.u8 x16) fun (x17 : Int) =>
  (lt (x11 :: (x13 :: (x15 :: (x17 :: ([] : List Int))))) fun (x18 : (List Int)) =>
  (if ((Go.Lift.appFits (List.length x9) (List.length x18) (1 : Nat)) = Bool.true) then
  (Option.some (((x9 ++ x18), ((0 : Int), ())), ()))
  else (Option.none)))))
  else (Option.none))))
  else (Option.none))))
  else (Option.none)))))
  else (Option.none)))
  else (Option.none)))))))))))
theorem k13 : c_fn Tryz.prog [(26, ⟨s26, d26⟩), (30, ⟨s30, d30⟩)] Tryz.f13 s13 h13 = some d13 := by kernel_rfl
/-- bulkhead/script.Encode -/
def s4 : Sig := ⟨[((.sl 25 (.pair (.int .i64) (.pair (.int .i64) (.pair (.int .i64) (.pair (.sl 2 (.int .i64)) .unit))))), .val)], [((.sl 5 (.int .u8)), (.own (.ow .sh))), ((.int .i64), .val)]⟩
 def h4 : Hint := (.seq .leaf
   (.seq .leaf
   (.seq .leaf
   (.seq .leaf
   (.seq (.seq .leaf
   (.cond none
     (.seq .leaf
     .leaf)
     .leaf))
   (.seq .leaf
   .leaf))))))
def d4 : (Nat → (((List IN) × Unit) → (Option (((List Int) × (Int × Unit)) × Unit)))) :=
  (fun (x0 : Nat) => (fun (x1 : ((List IN) × Unit)) => (Option.bind (d9 x0 ()) fun (x2 : ((((List Int) × (Int × Unit)) × Unit) × Unit)) =>
  (Option.bind (d10 x0 (x2.1.1, (x1.1, ((65536 : Int), ((), ()))))) fun (x3 : (Unit × (((List Int) × (Int × Unit)) × Unit))) =>
  (Option.bind (d12 x0 (x3.2.1, ())) fun (x4 : (((List Int) × (Int × Unit)) × Unit)) =>
  (lt (x4.1.2.1 != (0 : Int)) fun (x5 : Bool) =>
  (if (x5 = Bool.true) then
  (Option.some ((([] : List Int), ((1 : Int), ())), ()))
  else (Option.bind (d13 x0 ((3 : Int), (x4.1.1, ()))) fun (x6 : (((List Int) × (Int × Unit)) × Unit)) =>
  (Option.some ((x6.1.1, (x6.1.2.1, ())), ()))))))))))
theorem k4 : c_fn Tryz.prog [(9, ⟨s9, d9⟩), (10, ⟨s10, d10⟩), (11, ⟨s11, d11⟩), (12, ⟨s12, d12⟩), (13, ⟨s13, d13⟩)] Tryz.f4 s4 h4 = some d4 := by kernel_rfl
/-- bulkhead/script.name -/
def s33 : Sig := ⟨[((.int .i64), .val)], [(.str, .val)]⟩
 def h33 : Hint := (.seq .leaf
   (.seq (.seq .leaf
   (.block ⟨[], []⟩ true
     (.seq .leaf
     (.cond none
       (.seq .leaf
       .leaf)
       (.seq .leaf
       (.cond none
         (.seq .leaf
         .leaf)
         .leaf))))))
   (.seq .leaf
   .leaf)))
def d33 : (Nat → ((Int × Unit) → (Option ((ByteArray × Unit) × Unit)))) :=
  (fun (x0 : Nat) => (fun (x1 : (Int × Unit)) => (shr (fun (x2 : (Unit × Unit)) => (Option.some (((ByteArray.mk (List.toArray ([] : List UInt8))), ()), ()))) (fun (x2 : ((Unit × Unit) → (Option ((ByteArray × Unit) × Unit)))) => (lt (x1.1 == (1 : Int)) fun (x3 : Bool) =>
  (if (x3 = Bool.true) then
  (Option.some (((ByteArray.mk (List.toArray ((109 : UInt8) :: ((101 : UInt8) :: ((115 : UInt8) :: ((115 : UInt8) :: ((97 : UInt8) :: ((103 : UInt8) :: ((101 : UInt8) :: ([] : List UInt8)))))))))), ()), ()))
  else (lt (x1.1 == (2 : Int)) fun (x4 : Bool) =>
  (if (x4 = Bool.true) then
  (Option.some (((ByteArray.mk (List.toArray ((119 : UInt8) :: ((97 : UInt8) :: ((107 : UInt8) :: ((101 : UInt8) :: ([] : List UInt8))))))), ()), ()))
  else (x2 ((), ()))))))))))
theorem k33 : c_fn Tryz.prog [] Tryz.f33 s33 h33 = some d33 := by kernel_rfl
/-- bulkhead/script.words -/
def s32 : Sig := ⟨[(.str, .val)], [((.pair (.int .i64) (.pair (.int .i64) (.pair (.int .i64) (.pair (.int .i64) .unit)))), .val), (.bool, .val)]⟩
 def h32 : Hint := (.seq .leaf
   (.seq (.seq .leaf
   (.block ⟨[((.ptr 68 (.pair (.int .i64) (.pair (.int .i64) (.pair (.int .i64) (.pair (.int .i64) .unit))))), (.ow .sh), (2, 0))], [((2, 0), (.own 0))]⟩ true
     (.seq .leaf
     (.cond none
       (.seq .leaf
       .leaf)
       (.seq .leaf
       (.cond none
         (.seq .leaf
         .leaf)
         .leaf))))))
   (.seq .leaf
   .leaf)))
def d32_K1  : ((((Int × (Int × (Int × (Int × Unit)))) × Unit) × Unit) → (Option (((Int × (Int × (Int × (Int × Unit)))) × (Bool × Unit)) × Unit))) :=
  (fun (x2 : (((Int × (Int × (Int × (Int × Unit)))) × Unit) × Unit)) => (Option.some ((((0 : Int), ((0 : Int), ((0 : Int), ((0 : Int), ())))), (Bool.false, ())), ())))
def d32 : (Nat → ((ByteArray × Unit) → (Option (((Int × (Int × (Int × (Int × Unit)))) × (Bool × Unit)) × Unit)))) :=
  (fun (x0 : Nat) => (fun (x1 : (ByteArray × Unit)) => (shr d32_K1 (fun (x2 : ((((Int × (Int × (Int × (Int × Unit)))) × Unit) × Unit) → (Option (((Int × (Int × (Int × (Int × Unit)))) × (Bool × Unit)) × Unit)))) => (lt ((ByteArray.toList x1.1) == (ByteArray.toList (ByteArray.mk (List.toArray ((109 : UInt8) :: ((101 : UInt8) :: ((115 : UInt8) :: ((115 : UInt8) :: ((97 : UInt8) :: ((103 : UInt8) :: ((101 : UInt8) :: ([] : List UInt8)))))))))))) fun (x3 : Bool) =>
  (if (x3 = Bool.true) then
  (Option.some ((((1 : Int), ((64 : Int), ((1 : Int), ((16 : Int), ())))), (Bool.true, ())), ()))
  else (lt ((ByteArray.toList x1.1) == (ByteArray.toList (ByteArray.mk (List.toArray ((119 : UInt8) :: ((97 : UInt8) :: ((107 : UInt8) :: ((101 : UInt8) :: ([] : List UInt8))))))))) fun (x4 : Bool) =>
  (if (x4 = Bool.true) then
  (Option.some ((((2 : Int), ((32 : Int), ((0 : Int), ((0 : Int), ())))), (Bool.true, ())), ()))
  else (x2 ((((0 : Int), ((0 : Int), ((0 : Int), ((0 : Int), ())))), ()), ()))))))))))
theorem k32 : c_fn Tryz.prog [] Tryz.f32 s32 h32 = some d32 := by kernel_rfl
/-- strconv.Itoa -/
def s34 : Sig := ⟨[((.int .i64), .val)], [(.str, .val)]⟩
def d34 (_ : Nat) (x : Int × Unit) : Option ((ByteArray × Unit) × Unit) := if inI x.1 then some ((⟨(Lib.itoa x.1).toArray⟩, ()), ()) else none
/-- strconv.FormatInt -/
def s35 : Sig := ⟨[((.int .i64), .val), ((.int .i64), .val)], [(.str, .val)]⟩
def d35 (_ : Nat) (x : Int × Int × Unit) : Option ((ByteArray × Unit) × Unit) := if x.2.1 = 10 ∧ inI x.1 then some ((⟨(Lib.itoa x.1).toArray⟩, ()), ()) else none
/-- strings.Join -/
def s36 : Sig := ⟨[((.sl 9 .str), .val), (.str, .val)], [(.str, .val)]⟩
def d36 (_ : Nat) (x : List ByteArray × ByteArray × Unit) : Option ((ByteArray × Unit) × Unit) := if x.1.length ≤ 140737488355328 ∧ (joinL x.1 x.2.1).length ≤ 140737488355328 then some ((⟨(joinL x.1 x.2.1).toArray⟩, ()), ()) else none
/-- bulkhead/script.Show -/
def s15 : Sig := ⟨[((.pair (.int .i64) (.pair (.int .i64) (.pair (.int .i64) (.pair (.sl 2 (.int .i64)) .unit)))), .val)], [(.str, .val), (.bool, .val)]⟩
 def h15 : Hint := (.seq .leaf
   (.seq .leaf
   (.seq (.seq .leaf
   (.cond none
     (.seq .leaf
     .leaf)
     .leaf))
   (.seq .leaf
   (.seq (.seq .leaf
   (.block ⟨[((.sl 9 .str), (.ow .sh), (6, 0))], [((6, 0), (.own 0))]⟩ true
     (.loop ⟨[((.sl 9 .str), (.ow .sh), (6, 0))], [((69, 0), (.val (.int .i64))), ((6, 0), (.own 0)), ((67, 0), (.val (.sl 2 (.int .i64)))), ((68, 0), (.val (.int .i64)))]⟩
       (.seq .leaf
       (.seq (.cond none
         .leaf
         .leaf)
       (.seq (.block ⟨[((.sl 9 .str), (.ow .sh), (6, 0))], [((6, 0), (.own 0)), ((67, 0), (.val (.sl 2 (.int .i64)))), ((68, 0), (.val (.int .i64))), ((69, 0), (.val (.int .i64)))]⟩ true
         (.seq .leaf
         .leaf))
       .leaf))))))
   (.seq .leaf
   .leaf))))))
def d15_K1 (x0 : Nat) : ((((List ByteArray) × Unit) × Unit) → (Option ((ByteArray × (Bool × Unit)) × Unit))) :=
  (fun (x22 : (((List ByteArray) × Unit) × Unit)) => (Option.bind (d36 x0 (x22.1.1, ((ByteArray.mk (List.toArray ((32 : UInt8) :: ([] : List UInt8)))), ()))) fun (x23 : ((ByteArray × Unit) × Unit)) =>
  (Option.some ((x23.1.1, (Bool.true, ())), ()))))
def d15_K2 (x23 : ((((List ByteArray) × Unit) × (Int × ((List Int) × (Int × Unit)))) → (Option ((ByteArray × (Bool × Unit)) × Unit)))) : ((((List ByteArray) × Unit) × ((List Int) × (Int × (Int × Unit)))) → (Option ((ByteArray × (Bool × Unit)) × Unit))) :=
  (fun (x26 : (((List ByteArray) × Unit) × ((List Int) × (Int × (Int × Unit))))) => (x23 ((x26.1.1, ()), ((Go.IntKind.wrap Go.IntKind.i64 (x26.2.2.2.1 + (1 : Int))), (x26.2.1, (x26.2.2.1, ()))))))
def d15_L3 (x0 : Nat) (x22 : ((((List ByteArray) × Unit) × Unit) → (Option ((ByteArray × (Bool × Unit)) × Unit)))) : (((((List ByteArray) × Unit) × (Int × ((List Int) × (Int × Unit)))) → (Option ((ByteArray × (Bool × Unit)) × Unit))) → ((((List ByteArray) × Unit) × (Int × ((List Int) × (Int × Unit)))) → (Option ((ByteArray × (Bool × Unit)) × Unit)))) :=
  (fun (x23 : ((((List ByteArray) × Unit) × (Int × ((List Int) × (Int × Unit)))) → (Option ((ByteArray × (Bool × Unit)) × Unit)))) => (fun (x24 : (((List ByteArray) × Unit) × (Int × ((List Int) × (Int × Unit))))) => (lt (Decidable.decide (x24.2.1 < x24.2.2.2.1)) fun (x25 : Bool) =>
  (if (x25 = Bool.true) then
  (shr (d15_K2 x23) (fun (x26 : ((((List ByteArray) × Unit) × ((List Int) × (Int × (Int × Unit)))) → (Option ((ByteArray × (Bool × Unit)) × Unit)))) => (if (((Decidable.decide ((0 : Int) ≤ x24.2.1)) && (Decidable.decide (x24.2.1 < (((List.length x24.2.2.1) : Nat) : Int)))) = Bool.true) then
  (lt (List.getD x24.2.2.1 (Int.toNat x24.2.1) (0 : Int)) fun (x27 : Int) =>
  (Option.bind (d35 x0 (x27, ((10 : Int), ()))) fun (x28 : ((ByteArray × Unit) × Unit)) =>
  (lt (x28.1.1 :: ([] : List ByteArray)) fun (x29 : (List ByteArray)) =>
  (if ((Go.Lift.appFits (List.length x24.1.1) (List.length x29) (16 : Nat)) = Bool.true) then
  (x26 (((x24.1.1 ++ x29), ()), (x24.2.2.1, (x24.2.2.2.1, (x24.2.1, ())))))
  else (Option.none)))))
  else (Option.none))))
  else (x22 ((x24.1.1, ()), ()))))))
def d15 : (Nat → ((IN × Unit) → (Option ((ByteArray × (Bool × Unit)) × Unit)))) :=
  (fun (x0 : Nat) => (fun (x1 : (IN × Unit)) => (Option.bind (d33 x0 (x1.1.2.1, ())) fun (x2 : ((ByteArray × Unit) × Unit)) =>
  (Option.bind (d32 x0 (x2.1.1, ())) fun (x3 : (((Int × (Int × (Int × (Int × Unit)))) × (Bool × Unit)) × Unit)) =>
  (lt (Bool.not x3.1.2.1) fun (x4 : Bool) =>
  (lt (Decidable.decide (x1.1.1 < (0 : Int))) fun (x5 : Bool) =>
  (lt (if (x4 = Bool.true) then
  Bool.true
  else x5) fun (x6 : Bool) =>
  (lt (Decidable.decide (x1.1.1 ≥ (1099511627776 : Int))) fun (x7 : Bool) =>
  (lt (if (x6 = Bool.true) then
  Bool.true
  else x7) fun (x8 : Bool) =>
  (lt (Decidable.decide (x1.1.2.2.1 < (1 : Int))) fun (x9 : Bool) =>
  (lt (if (x8 = Bool.true) then
  Bool.true
  else x9) fun (x10 : Bool) =>
  (lt (Decidable.decide (x1.1.2.2.1 > x3.1.1.2.1)) fun (x11 : Bool) =>
  (lt (if (x10 = Bool.true) then
  Bool.true
  else x11) fun (x12 : Bool) =>
  (lt (((List.length x1.1.2.2.2.1) : Nat) : Int) fun (x13 : Int) =>
  (lt (Decidable.decide (x13 < x3.1.1.2.2.1)) fun (x14 : Bool) =>
  (lt (if (x12 = Bool.true) then
  Bool.true
  else x14) fun (x15 : Bool) =>
  (lt (((List.length x1.1.2.2.2.1) : Nat) : Int) fun (x16 : Int) =>
  (lt (Decidable.decide (x16 > x3.1.1.2.2.2.1)) fun (x17 : Bool) =>
  (lt (if (x15 = Bool.true) then
  Bool.true
  else x17) fun (x18 : Bool) =>
  (if (x18 = Bool.true) then
  (Option.some (((ByteArray.mk (List.toArray ([] : List UInt8))), (Bool.false, ())), ()))
  else (Option.bind (d34 x0 (x1.1.1, ())) fun (x19 : ((ByteArray × Unit) × Unit)) =>
  (Option.bind (d33 x0 (x1.1.2.1, ())) fun (x20 : ((ByteArray × Unit) × Unit)) =>
  (Option.bind (d34 x0 (x1.1.2.2.1, ())) fun (x21 : ((ByteArray × Unit) × Unit)) =>
  (shr (d15_K1 x0) (fun (x22 : ((((List ByteArray) × Unit) × Unit) → (Option ((ByteArray × (Bool × Unit)) × Unit)))) => (loopN (d15_L3 x0 x22) x0 (((x19.1.1 :: (x20.1.1 :: (x21.1.1 :: ([] : List ByteArray)))), ()), ((0 : Int), (x1.1.2.2.2.1, ((((List.length x1.1.2.2.2.1) : Nat) : Int), ()))))))))))))))))))))))))))))))
theorem k15 : c_fn Tryz.prog [(33, ⟨s33, d33⟩), (32, ⟨s32, d32⟩), (34, ⟨s34, d34⟩), (35, ⟨s35, d35⟩), (36, ⟨s36, d36⟩)] Tryz.f15 s15 h15 = some d15 := by kernel_rfl
/-- bytes.Split -/
def s37 : Sig := ⟨[((.sl 5 (.int .u8)), .val), ((.sl 5 (.int .u8)), .val)], [((.sl 26 (.sl 5 (.int .u8))), (.own (.ow .sh)))]⟩
def d37 (_ : Nat) (x : List Int × List Int × Unit) : Option ((List (List Int) × Unit) × Unit) := if byteL x.1 = true ∧ byteL x.2.1 = true ∧ x.1.length < 4294967281 ∧ x.2.1.length = 1 then some (((Lib.splitK (u8s x.2.1) 0 (Lib.count (u8s x.1) (u8s x.2.1)) (u8s x.1)).map u8i, ()), ()) else none
/-- strings.SplitN -/
def s52 : Sig := ⟨[(.str, .val), (.str, .val), ((.int .i64), .val)], [((.sl 9 .str), (.own (.ow .sh)))]⟩
def d52 (_ : Nat) (x : ByteArray × ByteArray × Int × Unit) : Option ((List ByteArray × Unit) × Unit) := if x.1.size < 4294967281 ∧ 1 ≤ x.2.1.size ∧ 1 ≤ x.2.2.1 ∧ x.2.2.1 ≤ 9223372036854775807 then some ((Lib.splitB x.2.1 0 (min x.2.2.1.toNat (x.1.size + 1) - 1) x.1, ()), ()) else none
/-- bulkhead/script.number -/
def s53 : Sig := ⟨[(.str, .val)], [((.int .i64), .val)]⟩
def d53 (_ : Nat) (x : ByteArray × Unit) : Option ((Int × Unit) × Unit) := some ((if minus x.1 then RowKit.wrap64 (-(numF x.1 x.1.size 0 0)) else numF x.1 x.1.size 0 0, ()), ())
/-- bulkhead/script.line -/
def s38 : Sig := ⟨[(.str, .val)], [((.pair (.int .i64) (.pair (.int .i64) (.pair (.int .i64) (.pair (.sl 2 (.int .i64)) .unit)))), (.own (.pr .sh (.pr .sh (.pr .sh (.pr (.ow .sh) .sh)))))), (.bool, .val)]⟩
 def h38 : Hint := (.seq .leaf
   (.seq .leaf
   (.seq (.seq .leaf
   (.cond none
     (.seq .leaf
     .leaf)
     .leaf))
   (.seq .leaf
   (.seq .leaf
   (.seq (.seq (.pre ⟨[((.ptr 25 (.pair (.int .i64) (.pair (.int .i64) (.pair (.int .i64) (.pair (.sl 2 (.int .i64)) .unit))))), (.ow (.pr .sh (.pr .sh (.pr .sh (.pr (.ow .sh) .sh))))), (7, 0)), ((.ptr 25 (.pair (.int .i64) (.pair (.int .i64) (.pair (.int .i64) (.pair (.sl 2 (.int .i64)) .unit))))), (.ow (.pr .sh (.pr .sh (.pr .sh (.pr (.ow .sh) .sh))))), (2, 0))], [((7, 0), (.own 0)), ((2, 0), (.own 1)), ((0, 0), (.val .str)), ((6, 0), (.val .bool)), ((4, 0), (.val (.sl 9 .str)))]⟩ .leaf)
   (.block ⟨[((.ptr 25 (.pair (.int .i64) (.pair (.int .i64) (.pair (.int .i64) (.pair (.sl 2 (.int .i64)) .unit))))), (.ow (.pr .sh (.pr .sh (.pr .sh (.pr (.ow .sh) .sh))))), (2, 0)), ((.ptr 25 (.pair (.int .i64) (.pair (.int .i64) (.pair (.int .i64) (.pair (.sl 2 (.int .i64)) .unit))))), (.ow (.pr .sh (.pr .sh (.pr .sh (.pr (.ow .sh) .sh))))), (7, 0))], [((2, 0), (.own 0)), ((0, 0), (.val .str)), ((6, 0), (.val .bool)), ((7, 0), (.own 1))]⟩ true
     (.loop ⟨[((.ptr 25 (.pair (.int .i64) (.pair (.int .i64) (.pair (.int .i64) (.pair (.sl 2 (.int .i64)) .unit))))), (.ow (.pr .sh (.pr .sh (.pr .sh (.pr (.ow .sh) .sh))))), (7, 0)), ((.ptr 25 (.pair (.int .i64) (.pair (.int .i64) (.pair (.int .i64) (.pair (.sl 2 (.int .i64)) .unit))))), (.ow (.pr .sh (.pr .sh (.pr .sh (.pr (.ow .sh) .sh))))), (2, 0))], [((39, 0), (.val (.int .i64))), ((7, 0), (.own 0)), ((37, 0), (.val (.sl 9 .str))), ((2, 0), (.own 1)), ((0, 0), (.val .str)), ((6, 0), (.val .bool)), ((38, 0), (.val (.int .i64)))]⟩
       (.seq .leaf
       (.seq (.cond none
         .leaf
         .leaf)
       (.seq (.block ⟨[((.ptr 25 (.pair (.int .i64) (.pair (.int .i64) (.pair (.int .i64) (.pair (.sl 2 (.int .i64)) .unit))))), (.ow (.pr .sh (.pr .sh (.pr .sh (.pr (.ow .sh) .sh))))), (7, 0)), ((.ptr 25 (.pair (.int .i64) (.pair (.int .i64) (.pair (.int .i64) (.pair (.sl 2 (.int .i64)) .unit))))), (.ow (.pr .sh (.pr .sh (.pr .sh (.pr (.ow .sh) .sh))))), (2, 0))], [((7, 0), (.own 0)), ((37, 0), (.val (.sl 9 .str))), ((2, 0), (.own 1)), ((0, 0), (.val .str)), ((6, 0), (.val .bool)), ((38, 0), (.val (.int .i64))), ((39, 0), (.val (.int .i64)))]⟩ true
         (.seq .leaf
         .leaf))
       .leaf))))))
   (.seq .leaf
   (.seq .leaf
   .leaf))))))))
def d38_K1 (x0 : Nat) : (((IN × (IN × Unit)) × (ByteArray × (Bool × Unit))) → (Option ((IN × (Bool × Unit)) × Unit))) :=
  (fun (x12 : ((IN × (IN × Unit)) × (ByteArray × (Bool × Unit)))) => (Option.bind (d15 x0 (x12.1.2.1, ())) fun (x13 : ((ByteArray × (Bool × Unit)) × Unit)) =>
  (lt ((ByteArray.toList x13.1.1) == (ByteArray.toList x12.2.1)) fun (x14 : Bool) =>
  (Option.some ((x12.1.2.1, ((if (x12.2.2.1 = Bool.true) then
  x14
  else Bool.false), ())), ())))))
def d38_K2 (x13 : (((IN × (IN × Unit)) × (Int × ((List ByteArray) × (ByteArray × (Bool × (Int × Unit)))))) → (Option ((IN × (Bool × Unit)) × Unit)))) : (((IN × (IN × Unit)) × ((List ByteArray) × (ByteArray × (Bool × (Int × (Int × Unit)))))) → (Option ((IN × (Bool × Unit)) × Unit))) :=
  (fun (x16 : ((IN × (IN × Unit)) × ((List ByteArray) × (ByteArray × (Bool × (Int × (Int × Unit))))))) => (x13 ((x16.1.1, (x16.1.2.1, ())), ((Go.IntKind.wrap Go.IntKind.i64 (x16.2.2.2.2.2.1 + (1 : Int))), (x16.2.1, (x16.2.2.1, (x16.2.2.2.1, (x16.2.2.2.2.1, ()))))))))
def d38_L3 (x0 : Nat) (x12 : (((IN × (IN × Unit)) × (ByteArray × (Bool × Unit))) → (Option ((IN × (Bool × Unit)) × Unit)))) : ((((IN × (IN × Unit)) × (Int × ((List ByteArray) × (ByteArray × (Bool × (Int × Unit)))))) → (Option ((IN × (Bool × Unit)) × Unit))) → (((IN × (IN × Unit)) × (Int × ((List ByteArray) × (ByteArray × (Bool × (Int × Unit)))))) → (Option ((IN × (Bool × Unit)) × Unit)))) :=
  (fun (x13 : (((IN × (IN × Unit)) × (Int × ((List ByteArray) × (ByteArray × (Bool × (Int × Unit)))))) → (Option ((IN × (Bool × Unit)) × Unit)))) => (fun (x14 : ((IN × (IN × Unit)) × (Int × ((List ByteArray) × (ByteArray × (Bool × (Int × Unit))))))) => (lt (Decidable.decide (x14.2.1 < x14.2.2.2.2.2.1)) fun (x15 : Bool) =>
  (if (x15 = Bool.true) then
  (shr (d38_K2 x13) (fun (x16 : (((IN × (IN × Unit)) × ((List ByteArray) × (ByteArray × (Bool × (Int × (Int × Unit)))))) → (Option ((IN × (Bool × Unit)) × Unit)))) => (if (((Decidable.decide ((0 : Int) ≤ x14.2.1)) && (Decidable.decide (x14.2.1 < (((List.length x14.2.2.1) : Nat) : Int)))) = Bool.true) then
  (lt (List.getD x14.2.2.1 (Int.toNat x14.2.1) ByteArray.empty) fun (x17 : ByteArray) =>
  (Option.bind (d53 x0 (x17, ())) fun (x18 : ((Int × Unit) × Unit)) =>
  (lt (x18.1.1 :: ([] : List Int)) fun (x19 : (List Int)) =>
  (if ((Bool.true && (Go.Lift.appFits (List.length x14.1.1.2.2.2.1) (List.length x19) (8 : Nat))) = Bool.true) then
  (x16 (((x14.1.1.1, (x14.1.1.2.1, (x14.1.1.2.2.1, ((x14.1.1.2.2.2.1 ++ x19), x14.1.1.2.2.2.2)))), (x14.1.2.1, ())), (x14.2.2.1, (x14.2.2.2.1, (x14.2.2.2.2.1, (x14.2.2.2.2.2.1, (x14.2.1, ())))))))
  else (Option.none)))))
  else (Option.none))))
  else (x12 ((x14.1.2.1, (x14.1.1, ())), (x14.2.2.2.1, (x14.2.2.2.2.1, ()))))))))
def d38 : (Nat → ((ByteArray × Unit) → (Option ((IN × (Bool × Unit)) × Unit)))) :=
  (fun (x0 : Nat) => (fun (x1 : (ByteArray × Unit)) => (Option.bind (d52 x0 (x1.1, ((ByteArray.mk (List.toArray ((32 : UInt8) :: ([] : List UInt8)))), ((20 : Int), ())))) fun (x2 : (((List ByteArray) × Unit) × Unit)) =>
  (lt (((List.length x2.1.1) : Nat) : Int) fun (x3 : Int) =>
  (lt (Decidable.decide (x3 < (3 : Int))) fun (x4 : Bool) =>
  (if (x4 = Bool.true) then
  (Option.some ((((0 : Int), ((0 : Int), ((0 : Int), (([] : List Int), ())))), (Bool.false, ())), ()))
  else (if (((Decidable.decide ((0 : Int) ≤ (1 : Int))) && (Decidable.decide ((1 : Int) < (((List.length x2.1.1) : Nat) : Int)))) = Bool.true) then
  (if (((Decidable.decide ((Int.toNat (1 : Int)) < (List.length x2.1.1))) && Bool.true) = Bool.true) then
  (lt (List.getD x2.1.1 (Int.toNat (1 : Int)) ByteArray.empty) fun (x5 : ByteArray) =>
  (Option.bind (d32 x0 (x5, ())) fun (x6 : (((Int × (Int × (Int × (Int × Unit)))) × (Bool × Unit)) × Unit)) =>
  (if (((Decidable.decide ((0 : Int) ≤ (0 : Int))) && (Decidable.decide ((0 : Int) < (((List.length x2.1.1) : Nat) : Int)))) = Bool.true) then
  (if (((Decidable.decide ((Int.toNat (0 : Int)) < (List.length x2.1.1))) && Bool.true) = Bool.true) then
  (lt (List.getD x2.1.1 (Int.toNat (0 : Int)) ByteArray.empty) fun (x7 : ByteArray) =>
  (Option.bind (d53 x0 (x7, ())) fun (x8 : ((Int × Unit) × Unit)) =>
  (if (((Decidable.decide ((0 : Int) ≤ (2 : Int))) && (Decidable.decide ((2 : Int) < (((List.length x2.1.1) : Nat) : Int)))) = Bool.true) then
  (if (((Decidable.decide ((Int.toNat (2 : Int)) < (List.length x2.1.1))) && Bool.true) = Bool.true) then
  (lt (List.getD x2.1.1 (Int.toNat (2 : Int)) ByteArray.empty) fun (x9 : ByteArray) =>
  (Option.bind (d53 x0 (x9, ())) fun (x10 : ((Int × Unit) × Unit)) =>
  (if (((((Decidable.decide ((0 : Int) ≤ (3 : Int))) && Bool.true) && (Decidable.decide ((Int.toNat (3 : Int)) ≤ (List.length x2.1.1)))) && (Decidable.decide ((List.length x2.1.1) ≤ (List.length x2.1.1)))) = Bool.true) then
  (lt (List.drop (Int.toNat (3 : Int)) (List.take (List.length x2.1.1) x2.1.1)) fun (x11 : (List ByteArray)) =>
  (shr (d38_K1 x0) (fun (x12 : (((IN × (IN × Unit)) × (ByteArray × (Bool × Unit))) → (Option ((IN × (Bool × Unit)) × Unit)))) => (loopN (d38_L3 x0 x12) x0 (((x8.1.1, (x6.1.1.1, (x10.1.1, (([] : List Int), ())))), (((0 : Int), ((0 : Int), ((0 : Int), (([] : List Int), ())))), ())), ((0 : Int), (x11, (x1.1, (x6.1.2.1, ((((List.length x11) : Nat) : Int), ()))))))))))
  else (Option.none))))
  else (Option.none))
  else (Option.none))))
  else (Option.none))
  else (Option.none))))
  else (Option.none))
  else (Option.none))))))))
theorem k38 : c_fn Tryz.prog [(52, ⟨s52, d52⟩), (32, ⟨s32, d32⟩), (53, ⟨s53, d53⟩), (15, ⟨s15, d15⟩)] Tryz.f38 s38 h38 = some d38 := by kernel_rfl
/-- bulkhead/script.Read -/
def s16 : Sig := ⟨[((.sl 5 (.int .u8)), .val)], [((.sl 25 (.pair (.int .i64) (.pair (.int .i64) (.pair (.int .i64) (.pair (.sl 2 (.int .i64)) .unit))))), (.own (.ow (.pr .sh (.pr .sh (.pr .sh (.pr (.ow .sh) .sh))))))), ((.int .i64), .val), ((.int .i64), .val)]⟩
 def h16 : Hint := (.seq .leaf
   (.seq .leaf
   (.seq (.seq .leaf
   (.block ⟨[((.sl 25 (.pair (.int .i64) (.pair (.int .i64) (.pair (.int .i64) (.pair (.sl 2 (.int .i64)) .unit))))), (.ow (.pr .sh (.pr .sh (.pr .sh (.pr (.ow .sh) .sh))))), (5, 0))], [((5, 0), (.own 0))]⟩ true
     (.loop ⟨[((.sl 25 (.pair (.int .i64) (.pair (.int .i64) (.pair (.int .i64) (.pair (.sl 2 (.int .i64)) .unit))))), (.ow (.pr .sh (.pr .sh (.pr .sh (.pr (.ow .sh) .sh))))), (5, 0)), ((.sl 26 (.sl 5 (.int .u8))), (.ow .sh), (13, 0))], [((15, 0), (.val (.int .i64))), ((5, 0), (.own 0)), ((13, 0), (.own 1)), ((14, 0), (.val (.int .i64)))]⟩
       (.seq .leaf
       (.seq (.cond none
         .leaf
         .leaf)
       (.seq (.block ⟨[((.sl 25 (.pair (.int .i64) (.pair (.int .i64) (.pair (.int .i64) (.pair (.sl 2 (.int .i64)) .unit))))), (.ow (.pr .sh (.pr .sh (.pr .sh (.pr (.ow .sh) .sh))))), (5, 0)), ((.sl 26 (.sl 5 (.int .u8))), (.ow .sh), (13, 0))], [((5, 0), (.own 0)), ((13, 0), (.own 1)), ((14, 0), (.val (.int .i64))), ((15, 0), (.val (.int .i64)))]⟩ true
         (.seq .leaf
         (.seq (.seq .leaf
         (.cond none
           .leaf
           .leaf))
         (.seq (.seq .leaf
         (.cond none
           (.seq .leaf
           .leaf)
           .leaf))
         (.seq .leaf
         (.seq (.seq .leaf
         (.cond none
           (.seq .leaf
           .leaf)
           .leaf))
         .leaf))))))
       .leaf))))))
   (.seq .leaf
   .leaf))))
def d16_K1  : ((((List IN) × Unit) × Unit) → (Option (((List IN) × (Int × (Int × Unit))) × Unit))) :=
  (fun (x4 : (((List IN) × Unit) × Unit)) => (Option.some ((x4.1.1, ((0 : Int), ((0 : Int), ()))), ())))
def d16_K2 (x5 : ((((List IN) × ((List (List Int)) × Unit)) × (Int × (Int × Unit))) → (Option (((List IN) × (Int × (Int × Unit))) × Unit)))) : ((((List IN) × ((List (List Int)) × Unit)) × (Int × (Int × Unit))) → (Option (((List IN) × (Int × (Int × Unit))) × Unit))) :=
  (fun (x8 : (((List IN) × ((List (List Int)) × Unit)) × (Int × (Int × Unit)))) => (x5 ((x8.1.1, (x8.1.2.1, ())), ((Go.IntKind.wrap Go.IntKind.i64 (x8.2.2.1 + (1 : Int))), (x8.2.1, ())))))
def d16_L3 (x0 : Nat) (x4 : ((((List IN) × Unit) × Unit) → (Option (((List IN) × (Int × (Int × Unit))) × Unit)))) : (((((List IN) × ((List (List Int)) × Unit)) × (Int × (Int × Unit))) → (Option (((List IN) × (Int × (Int × Unit))) × Unit))) → ((((List IN) × ((List (List Int)) × Unit)) × (Int × (Int × Unit))) → (Option (((List IN) × (Int × (Int × Unit))) × Unit)))) :=
  (fun (x5 : ((((List IN) × ((List (List Int)) × Unit)) × (Int × (Int × Unit))) → (Option (((List IN) × (Int × (Int × Unit))) × Unit)))) => (fun (x6 : (((List IN) × ((List (List Int)) × Unit)) × (Int × (Int × Unit)))) => (lt (Decidable.decide (x6.2.1 < x6.2.2.1)) fun (x7 : Bool) =>
  (if (x7 = Bool.true) then
  (shr (d16_K2 x5) (fun (x8 : ((((List IN) × ((List (List Int)) × Unit)) × (Int × (Int × Unit))) → (Option (((List IN) × (Int × (Int × Unit))) × Unit)))) => (if (((Decidable.decide ((0 : Int) ≤ x6.2.1)) && (Decidable.decide (x6.2.1 < (((List.length x6.1.2.1) : Nat) : Int)))) = Bool.true) then
  (if (((Decidable.decide ((Int.toNat x6.2.1) < (List.length x6.1.2.1))) && Bool.true) = Bool.true) then
  (lt (List.getD x6.1.2.1 (Int.toNat x6.2.1) ([] : List Int)) fun (x9 : (List Int)) =>
  (lt (((List.length x9) : Nat) : Int) fun (x10 : Int) =>
  (lt (x10 == (0 : Int)) fun (x11 : Bool) =>
  (if (((Bool.not ((x11 == Bool.false) && Bool.true)) || ((Decidable.decide ((0 : Int) ≤ (0 : Int))) && (Decidable.decide ((0 : Int) < (((List.length x9) : Nat) : Int))))) = Bool.true) then
  (lt (List.getD x9 (Int.toNat (0 : Int)) (0 : Int)) fun (x12 : Int) =>
  (lt (x12 == (35 : Int)) fun (x13 : Bool) =>
  (lt (if (x11 = Bool.true) then
  Bool.true
  else x13) fun (x14 : Bool) =>
  (if (x14 = Bool.true) then
  (x8 ((x6.1.1, (x6.1.2.1, ())), (x6.2.2.1, (x6.2.1, ()))))
  else (lt (((List.length x6.1.1) : Nat) : Int) fun (x15 : Int) =>
  (lt (x15 == (65536 : Int)) fun (x16 : Bool) =>
  (if (x16 = Bool.true) then
  (Option.some ((([] : List IN), ((1 : Int), ((Go.IntKind.wrap Go.IntKind.i64 (x6.2.1 + (1 : Int))), ()))), ()))
  else (lt (Go.Lift.bstr x9) fun (x17 : ByteArray) =>
  (Option.bind (d38 x0 (x17, ())) fun (x18 : ((IN × (Bool × Unit)) × Unit)) =>
  (lt (Bool.not x18.1.2.1) fun (x19 : Bool) =>
  (if (x19 = Bool.true) then
  (Option.some ((([] : List IN), ((20 : Int), ((Go.IntKind.wrap Go.IntKind.i64 (x6.2.1 + (1 : Int))), ()))), ()))
  else (lt (x18.1.1 :: ([] : List IN)) fun (x20 : (List IN)) =>
  (if ((Go.Lift.appFits (List.length x6.1.1) (List.length x20) (48 : Nat)) = Bool.true) then
  (x8 (((x6.1.1 ++ x20), (x6.1.2.1, ())), (x6.2.2.1, (x6.2.1, ()))))
  else (Option.none))))))))))))))
  else (Option.none)))))
  else (Option.none))
  else (Option.none))))
  else (x4 ((x6.1.1, ()), ()))))))
def d16 : (Nat → (((List Int) × Unit) → (Option (((List IN) × (Int × (Int × Unit))) × Unit)))) :=
  (fun (x0 : Nat) => (fun (x1 : ((List Int) × Unit)) => (lt ((10 : Int) :: ([] : List Int)) fun (x2 : (List Int)) =>
  (if ((Bool.not (List.isEmpty x2)) = Bool.true) then
  (Option.bind (d37 x0 (x1.1, (x2, ()))) fun (x3 : (((List (List Int)) × Unit) × Unit)) =>
  (shr d16_K1 (fun (x4 : ((((List IN) × Unit) × Unit) → (Option (((List IN) × (Int × (Int × Unit))) × Unit)))) => (loopN (d16_L3 x0 x4) x0 ((([] : List IN), (x3.1.1, ())), ((0 : Int), ((((List.length x3.1.1) : Nat) : Int), ())))))))
  else (Option.none)))))
theorem k16 : c_fn Tryz.prog [(37, ⟨s37, d37⟩), (38, ⟨s38, d38⟩)] Tryz.f16 s16 h16 = some d16 := by kernel_rfl
/-- bulkhead/bulkheadref21.SameInput -/
def s23 : Sig := ⟨[((.pair (.int .i64) (.pair (.int .i64) (.pair (.int .i64) (.pair (.sl 2 (.int .i64)) .unit)))), .val), ((.pair (.int .i64) (.pair (.int .i64) (.pair (.int .i64) (.pair (.sl 2 (.int .i64)) .unit)))), .val)], [(.bool, .val)]⟩
 def h23 : Hint := (.seq .leaf
   (.seq (.seq .leaf
   (.cond none
     (.seq .leaf
     .leaf)
     .leaf))
   (.seq (.seq .leaf
   (.block ⟨[], []⟩ true
     (.loop ⟨[((.ptr 25 (.pair (.int .i64) (.pair (.int .i64) (.pair (.int .i64) (.pair (.sl 2 (.int .i64)) .unit))))), (.ow .sh), (3, 0)), ((.ptr 25 (.pair (.int .i64) (.pair (.int .i64) (.pair (.int .i64) (.pair (.sl 2 (.int .i64)) .unit))))), (.ow .sh), (2, 0))], [((5, 0), (.val (.int .i64))), ((3, 0), (.own 0)), ((2, 0), (.own 1))]⟩
       (.seq (.seq .leaf
       (.cond none
         .leaf
         .leaf))
       (.seq (.block ⟨[((.ptr 25 (.pair (.int .i64) (.pair (.int .i64) (.pair (.int .i64) (.pair (.sl 2 (.int .i64)) .unit))))), (.ow .sh), (3, 0)), ((.ptr 25 (.pair (.int .i64) (.pair (.int .i64) (.pair (.int .i64) (.pair (.sl 2 (.int .i64)) .unit))))), (.ow .sh), (2, 0))], [((3, 0), (.own 0)), ((2, 0), (.own 1)), ((5, 0), (.val (.int .i64)))]⟩ true
         (.seq .leaf
         (.cond none
           (.seq .leaf
           .leaf)
           .leaf)))
       .leaf)))))
   (.seq .leaf
   .leaf))))
def d23_K1 (x12 : (((IN × (IN × Unit)) × (Int × Unit)) → (Option ((Bool × Unit) × Unit)))) : (((IN × (IN × Unit)) × (Int × Unit)) → (Option ((Bool × Unit) × Unit))) :=
  (fun (x16 : ((IN × (IN × Unit)) × (Int × Unit))) => (x12 ((x16.1.1, (x16.1.2.1, ())), ((Go.IntKind.wrap Go.IntKind.i64 (x16.2.1 + (1 : Int))), ()))))
def d23_L2 (x11 : ((Unit × Unit) → (Option ((Bool × Unit) × Unit)))) : ((((IN × (IN × Unit)) × (Int × Unit)) → (Option ((Bool × Unit) × Unit))) → (((IN × (IN × Unit)) × (Int × Unit)) → (Option ((Bool × Unit) × Unit)))) :=
  (fun (x12 : (((IN × (IN × Unit)) × (Int × Unit)) → (Option ((Bool × Unit) × Unit)))) => (fun (x13 : ((IN × (IN × Unit)) × (Int × Unit))) => (lt (((List.length x13.1.2.1.2.2.2.1) : Nat) : Int) fun (x14 : Int) =>
  (lt (Decidable.decide (x13.2.1 < x14)) fun (x15 : Bool) =>
  (if (x15 = Bool.true) then
  (shr (d23_K1 x12) (fun (x16 : (((IN × (IN × Unit)) × (Int × Unit)) → (Option ((Bool × Unit) × Unit)))) => (if (((Decidable.decide ((0 : Int) ≤ x13.2.1)) && (Decidable.decide (x13.2.1 < (((List.length x13.1.2.1.2.2.2.1) : Nat) : Int)))) = Bool.true) then
  (lt (List.getD x13.1.2.1.2.2.2.1 (Int.toNat x13.2.1) (0 : Int)) fun (x17 : Int) =>
  (if (((Decidable.decide ((0 : Int) ≤ x13.2.1)) && (Decidable.decide (x13.2.1 < (((List.length x13.1.1.2.2.2.1) : Nat) : Int)))) = Bool.true) then
  (lt (List.getD x13.1.1.2.2.2.1 (Int.toNat x13.2.1) (0 : Int)) fun (x18 : Int) =>
  (lt (x17 != x18) fun (x19 : Bool) =>
  (if (x19 = Bool.true) then
  (Option.some ((Bool.false, ()), ()))
  else (x16 ((x13.1.1, (x13.1.2.1, ())), (x13.2.1, ()))))))
  else (Option.none)))
  else (Option.none))))
  else (x11 ((), ())))))))
def d23 : (Nat → ((IN × (IN × Unit)) → (Option ((Bool × Unit) × Unit)))) :=
  (fun (x0 : Nat) => (fun (x1 : (IN × (IN × Unit))) => (lt (x1.1.1 != x1.2.1.1) fun (x2 : Bool) =>
  (lt (x1.1.2.1 != x1.2.1.2.1) fun (x3 : Bool) =>
  (lt (if (x2 = Bool.true) then
  Bool.true
  else x3) fun (x4 : Bool) =>
  (lt (x1.1.2.2.1 != x1.2.1.2.2.1) fun (x5 : Bool) =>
  (lt (if (x4 = Bool.true) then
  Bool.true
  else x5) fun (x6 : Bool) =>
  (lt (((List.length x1.1.2.2.2.1) : Nat) : Int) fun (x7 : Int) =>
  (lt (((List.length x1.2.1.2.2.2.1) : Nat) : Int) fun (x8 : Int) =>
  (lt (x7 != x8) fun (x9 : Bool) =>
  (lt (if (x6 = Bool.true) then
  Bool.true
  else x9) fun (x10 : Bool) =>
  (if (x10 = Bool.true) then
  (Option.some ((Bool.false, ()), ()))
  else (shr (fun (x11 : (Unit × Unit)) => (Option.some ((Bool.true, ()), ()))) (fun (x11 : ((Unit × Unit) → (Option ((Bool × Unit) × Unit)))) => (loopN (d23_L2 x11) x0 ((x1.2.1, (x1.1, ())), ((0 : Int), ())))))))))))))))))
theorem k23 : c_fn Tryz.prog [] Tryz.f23 s23 h23 = some d23 := by kernel_rfl
/-- bulkhead/bulkheadref21.Same -/
def s8 : Sig := ⟨[((.sl 25 (.pair (.int .i64) (.pair (.int .i64) (.pair (.int .i64) (.pair (.sl 2 (.int .i64)) .unit))))), .val), ((.sl 25 (.pair (.int .i64) (.pair (.int .i64) (.pair (.int .i64) (.pair (.sl 2 (.int .i64)) .unit))))), .val)], [(.bool, .val)]⟩
 def h8 : Hint := (.seq .leaf
   (.seq (.seq .leaf
   (.cond none
     (.seq .leaf
     .leaf)
     .leaf))
   (.seq (.seq .leaf
   (.block ⟨[], []⟩ true
     (.loop ⟨[], [((5, 0), (.val (.int .i64))), ((1, 0), (.val (.sl 25 (.pair (.int .i64) (.pair (.int .i64) (.pair (.int .i64) (.pair (.sl 2 (.int .i64)) .unit))))))), ((0, 0), (.val (.sl 25 (.pair (.int .i64) (.pair (.int .i64) (.pair (.int .i64) (.pair (.sl 2 (.int .i64)) .unit)))))))]⟩
       (.seq (.seq .leaf
       (.cond none
         .leaf
         .leaf))
       (.seq (.block ⟨[], [((1, 0), (.val (.sl 25 (.pair (.int .i64) (.pair (.int .i64) (.pair (.int .i64) (.pair (.sl 2 (.int .i64)) .unit))))))), ((0, 0), (.val (.sl 25 (.pair (.int .i64) (.pair (.int .i64) (.pair (.int .i64) (.pair (.sl 2 (.int .i64)) .unit))))))), ((5, 0), (.val (.int .i64)))]⟩ true
         (.seq .leaf
         (.cond none
           (.seq .leaf
           .leaf)
           .leaf)))
       .leaf)))))
   (.seq .leaf
   .leaf))))
def d8_K1 (x6 : ((Unit × (Int × ((List IN) × ((List IN) × Unit)))) → (Option ((Bool × Unit) × Unit)))) : ((Unit × ((List IN) × ((List IN) × (Int × Unit)))) → (Option ((Bool × Unit) × Unit))) :=
  (fun (x10 : (Unit × ((List IN) × ((List IN) × (Int × Unit))))) => (x6 ((), ((Go.IntKind.wrap Go.IntKind.i64 (x10.2.2.2.1 + (1 : Int))), (x10.2.1, (x10.2.2.1, ()))))))
def d8_L2 (x0 : Nat) (x5 : ((Unit × Unit) → (Option ((Bool × Unit) × Unit)))) : (((Unit × (Int × ((List IN) × ((List IN) × Unit)))) → (Option ((Bool × Unit) × Unit))) → ((Unit × (Int × ((List IN) × ((List IN) × Unit)))) → (Option ((Bool × Unit) × Unit)))) :=
  (fun (x6 : ((Unit × (Int × ((List IN) × ((List IN) × Unit)))) → (Option ((Bool × Unit) × Unit)))) => (fun (x7 : (Unit × (Int × ((List IN) × ((List IN) × Unit))))) => (lt (((List.length x7.2.2.2.1) : Nat) : Int) fun (x8 : Int) =>
  (lt (Decidable.decide (x7.2.1 < x8)) fun (x9 : Bool) =>
  (if (x9 = Bool.true) then
  (shr (d8_K1 x6) (fun (x10 : ((Unit × ((List IN) × ((List IN) × (Int × Unit)))) → (Option ((Bool × Unit) × Unit)))) => (if (((Decidable.decide ((0 : Int) ≤ x7.2.1)) && (Decidable.decide (x7.2.1 < (((List.length x7.2.2.2.1) : Nat) : Int)))) = Bool.true) then
  (lt (List.getD x7.2.2.2.1 (Int.toNat x7.2.1) ((0 : Int), ((0 : Int), ((0 : Int), (([] : List Int), ()))))) fun (x11 : IN) =>
  (if (((Decidable.decide ((0 : Int) ≤ x7.2.1)) && (Decidable.decide (x7.2.1 < (((List.length x7.2.2.1) : Nat) : Int)))) = Bool.true) then
  (lt (List.getD x7.2.2.1 (Int.toNat x7.2.1) ((0 : Int), ((0 : Int), ((0 : Int), (([] : List Int), ()))))) fun (x12 : IN) =>
  (Option.bind (d23 x0 (x11, (x12, ()))) fun (x13 : ((Bool × Unit) × Unit)) =>
  (lt (Bool.not x13.1.1) fun (x14 : Bool) =>
  (if (x14 = Bool.true) then
  (Option.some ((Bool.false, ()), ()))
  else (x10 ((), (x7.2.2.1, (x7.2.2.2.1, (x7.2.1, ())))))))))
  else (Option.none)))
  else (Option.none))))
  else (x5 ((), ())))))))
def d8 : (Nat → (((List IN) × ((List IN) × Unit)) → (Option ((Bool × Unit) × Unit)))) :=
  (fun (x0 : Nat) => (fun (x1 : ((List IN) × ((List IN) × Unit))) => (lt (((List.length x1.1) : Nat) : Int) fun (x2 : Int) =>
  (lt (((List.length x1.2.1) : Nat) : Int) fun (x3 : Int) =>
  (lt (x2 != x3) fun (x4 : Bool) =>
  (if (x4 = Bool.true) then
  (Option.some ((Bool.false, ()), ()))
  else (shr (fun (x5 : (Unit × Unit)) => (Option.some ((Bool.true, ()), ()))) (fun (x5 : ((Unit × Unit) → (Option ((Bool × Unit) × Unit)))) => (loopN (d8_L2 x0 x5) x0 ((), ((0 : Int), (x1.2.1, (x1.1, ())))))))))))))
theorem k8 : c_fn Tryz.prog [(23, ⟨s23, d23⟩)] Tryz.f8 s8 h8 = some d8 := by kernel_rfl
/-- bulkhead/bulkheadlaw21.known -/
def s6 : Sig := ⟨[], [(.bool, .val)]⟩
 def h6 : Hint := (.seq .leaf
   (.seq .leaf
   (.seq .leaf
   (.seq .leaf
   (.seq (.pre ⟨[((.ptr 25 (.pair (.int .i64) (.pair (.int .i64) (.pair (.int .i64) (.pair (.sl 2 (.int .i64)) .unit))))), (.ow .sh), (1, 0)), ((.sl 25 (.pair (.int .i64) (.pair (.int .i64) (.pair (.int .i64) (.pair (.sl 2 (.int .i64)) .unit))))), (.ow (.pr .sh (.pr .sh (.pr .sh (.pr (.ow .sh) .sh))))), (4, 0))], [((1, 0), (.own 0)), ((4, 0), (.own 1)), ((6, 0), (.val (.int .i64))), ((5, 0), (.val (.int .i64))), ((2, 0), (.val .str)), ((3, 0), (.val .bool))]⟩ .leaf)
   .leaf)))))
def d6 : (Nat → (Unit → (Option ((Bool × Unit) × Unit)))) :=
  (fun (x0 : Nat) => (fun (x1 : Unit) => (lt ((5 : Int) :: ((Neg.neg (1 : Int)) :: ([] : List Int))) fun (x2 : (List Int)) =>
  (Option.bind (d15 x0 (((7 : Int), ((1 : Int), ((2 : Int), (x2, ())))), ())) fun (x3 : ((ByteArray × (Bool × Unit)) × Unit)) =>
  (lt ((35 : Int) :: ((10 : Int) :: ((55 : Int) :: ((32 : Int) :: ((109 : Int) :: ((101 : Int) :: ((115 : Int) :: ((115 : Int) :: ((97 : Int) :: ((103 : Int) :: ((101 : Int) :: ((32 : Int) :: ((50 : Int) :: ((32 : Int) :: ((53 : Int) :: ((32 : Int) :: ((45 : Int) :: ((49 : Int) :: ((10 : Int) :: ([] : List Int)))))))))))))))))))) fun (x4 : (List Int)) =>
  (if ((Bool.not (List.isEmpty x4)) = Bool.true) then
  (Option.bind (d16 x0 (x4, ())) fun (x5 : (((List IN) × (Int × (Int × Unit))) × Unit)) =>
  (lt ((ByteArray.toList x3.1.1) == (ByteArray.toList (ByteArray.mk (List.toArray ((55 : UInt8) :: ((32 : UInt8) :: ((109 : UInt8) :: ((101 : UInt8) :: ((115 : UInt8) :: ((115 : UInt8) :: ((97 : UInt8) :: ((103 : UInt8) :: ((101 : UInt8) :: ((32 : UInt8) :: ((50 : UInt8) :: ((32 : UInt8) :: ((53 : UInt8) :: ((32 : UInt8) :: ((45 : UInt8) :: ((49 : UInt8) :: ([] : List UInt8))))))))))))))))))))) fun (x6 : Bool) =>
  (lt (if (x3.1.2.1 = Bool.true) then
  x6
  else Bool.false) fun (x7 : Bool) =>
  (lt (x5.1.2.1 == (0 : Int)) fun (x8 : Bool) =>
  (lt (if (x7 = Bool.true) then
  x8
  else Bool.false) fun (x9 : Bool) =>
  (lt (x5.1.2.2.1 == (0 : Int)) fun (x10 : Bool) =>
  (lt (if (x9 = Bool.true) then
  x10
  else Bool.false) fun (x11 : Bool) =>
  (lt (((7 : Int), ((1 : Int), ((2 : Int), (x2, ())))) :: ([] : List IN)) fun (x12 : (List IN)) =>
  (Option.bind (if (((x11 == Bool.true) && Bool.true) = Bool.true) then
  (d8 x0 (x5.1.1, (x12, ())))
  else (Option.some ((Bool.false, ()), ()))) fun (x13 : ((Bool × Unit) × Unit)) =>
  (Option.some (((if (x11 = Bool.true) then
  x13.1.1
  else Bool.false), ()), ())))))))))))
  else (Option.none)))))))
theorem k6 : c_fn Tryz.prog [(15, ⟨s15, d15⟩), (16, ⟨s16, d16⟩), (8, ⟨s8, d8⟩)] Tryz.f6 s6 h6 = some d6 := by kernel_rfl
/-- bytes.Equal -/
def s39 : Sig := ⟨[((.sl 5 (.int .u8)), .val), ((.sl 5 (.int .u8)), .val)], [(.bool, .val)]⟩
 def h39 : Hint := (.seq .leaf
   (.seq .leaf
   .leaf))
def d39 : (Nat → (((List Int) × ((List Int) × Unit)) → (Option ((Bool × Unit) × Unit)))) :=
  (fun (x0 : Nat) => (fun (x1 : ((List Int) × ((List Int) × Unit))) => (Option.some ((((ByteArray.toList (Go.Lift.bstr x1.1)) == (ByteArray.toList (Go.Lift.bstr x1.2.1))), ()), ()))))
theorem k39 : c_fn Tryz.prog [] Tryz.f39 s39 h39 = some d39 := by kernel_rfl
/-- bulkhead/codec.Unseal -/
def s17 : Sig := ⟨[((.int .u8), .val), ((.sl 5 (.int .u8)), .val)], [((.sl 5 (.int .u8)), (.own (.ow .sh))), ((.int .i64), .val)]⟩
 def h17 : Hint := (.seq .leaf
   (.seq (.block ⟨[], [((1, 0), (.val (.sl 5 (.int .u8)))), ((0, 0), (.val (.int .u8)))]⟩ true
     (.seq .leaf
     (.cond none
       (.seq .leaf
       .leaf)
       (.seq .leaf
       (.cond none
         (.seq .leaf
         .leaf)
         .leaf)))))
   (.seq .leaf
   (.seq .leaf
   (.seq (.seq .leaf
   (.cond none
     (.seq .leaf
     .leaf)
     .leaf))
   (.seq .leaf
   .leaf))))))
def d17_K1 (x0 : Nat) : ((Unit × ((List Int) × (Int × Unit))) → (Option (((List Int) × (Int × Unit)) × Unit))) :=
  (fun (x2 : (Unit × ((List Int) × (Int × Unit)))) => (lt (((List.length x2.2.1) : Nat) : Int) fun (x3 : Int) =>
  (lt (Go.IntKind.wrap Go.IntKind.i64 (x3 - (4 : Int))) fun (x4 : Int) =>
  (if (((((Decidable.decide ((0 : Int) ≤ (8 : Int))) && (Decidable.decide ((0 : Int) ≤ x4))) && (Decidable.decide ((Int.toNat (8 : Int)) ≤ (Int.toNat x4)))) && (Decidable.decide ((Int.toNat x4) ≤ (List.length x2.2.1)))) = Bool.true) then
  (lt (List.drop (Int.toNat (8 : Int)) (List.take (Int.toNat x4) x2.2.1)) fun (x5 : (List Int)) =>
  (Option.bind (d13 x0 (x2.2.2.1, (x5, ()))) fun (x6 : (((List Int) × (Int × Unit)) × Unit)) =>
  (Option.bind (d39 x0 (x6.1.1, (x2.2.1, ()))) fun (x7 : ((Bool × Unit) × Unit)) =>
  (lt (Bool.not x7.1.1) fun (x8 : Bool) =>
  (if (x8 = Bool.true) then
  (Option.some ((([] : List Int), ((20 : Int), ())), ()))
  else (Option.bind (d29 x0 (x5, ())) fun (x9 : (((List Int) × Unit) × Unit)) =>
  (Option.some ((x9.1.1, ((0 : Int), ())), ()))))))))
  else (Option.none)))))
def d17 : (Nat → ((Int × ((List Int) × Unit)) → (Option (((List Int) × (Int × Unit)) × Unit)))) :=
  (fun (x0 : Nat) => (fun (x1 : (Int × ((List Int) × Unit))) => (shr (d17_K1 x0) (fun (x2 : ((Unit × ((List Int) × (Int × Unit))) → (Option (((List Int) × (Int × Unit)) × Unit)))) => (lt (((List.length x1.2.1) : Nat) : Int) fun (x3 : Int) =>
  (lt (Decidable.decide (x3 > (4194316 : Int))) fun (x4 : Bool) =>
  (if (x4 = Bool.true) then
  (Option.some ((([] : List Int), ((1 : Int), ())), ()))
  else (lt (((List.length x1.2.1) : Nat) : Int) fun (x5 : Int) =>
  (lt (Decidable.decide (x5 < (12 : Int))) fun (x6 : Bool) =>
  (if (x6 = Bool.true) then
  (Option.some ((([] : List Int), ((20 : Int), ())), ()))
  else (x2 ((), (x1.2.1, (x1.1, ()))))))))))))))
theorem k17 : c_fn Tryz.prog [(13, ⟨s13, d13⟩), (39, ⟨s39, d39⟩), (29, ⟨s29, d29⟩)] Tryz.f17 s17 h17 = some d17 := by kernel_rfl
/-- bulkhead/codec.NewReader -/
def s18 : Sig := ⟨[((.sl 5 (.int .u8)), .val)], [((.ptr 81 (.pair (.sl 5 (.int .u8)) (.pair (.int .i64) .unit))), (.own (.ow (.pr (.ow .sh) .sh))))]⟩
 def h18 : Hint := (.seq .leaf
   (.seq .leaf
   .leaf))
def d18 : (Nat → (((List Int) × Unit) → (Option ((((List Int) × (Int × Unit)) × Unit) × Unit)))) :=
  (fun (x0 : Nat) => (fun (x1 : ((List Int) × Unit)) => (Option.bind (d29 x0 (x1.1, ())) fun (x2 : (((List Int) × Unit) × Unit)) =>
  (Option.some (((x2.1.1, ((0 : Int), ())), ()), ())))))
theorem k18 : c_fn Tryz.prog [(29, ⟨s29, d29⟩)] Tryz.f18 s18 h18 = some d18 := by kernel_rfl
/-- (*bulkhead/codec.Reader).take -/
def s54 : Sig := ⟨[((.ptr 81 (.pair (.sl 5 (.int .u8)) (.pair (.int .i64) .unit))), (.mut (.ow .sh))), ((.int .i64), .val)], [((.sl 5 (.int .u8)), .val)]⟩
 def h54 : Hint := (.seq .leaf
   (.seq (.seq .leaf
   (.cond (some ⟨[((.ptr 81 (.pair (.sl 5 (.int .u8)) (.pair (.int .i64) .unit))), (.ow (.pr .sh (.pr .sh .sh))), (0, 0))], [((0, 0), (.own 0)), ((1, 0), (.val (.int .i64)))]⟩)
     .leaf
     .leaf))
   (.seq (.seq .leaf
   (.cond none
     (.seq .leaf
     .leaf)
     .leaf))
   (.seq .leaf
   (.seq .leaf
   (.seq .leaf
   .leaf))))))
def d54_K1  : (((((List Int) × (Int × Unit)) × Unit) × (Int × Unit)) → (Option (((List Int) × Unit) × (((List Int) × (Int × Unit)) × Unit)))) :=
  (fun (x8 : ((((List Int) × (Int × Unit)) × Unit) × (Int × Unit))) => (lt (x8.1.1.2.1 != (0 : Int)) fun (x9 : Bool) =>
  (if (x9 = Bool.true) then
  (Option.some ((([] : List Int), ()), (x8.1.1, ())))
  else (if ((((Decidable.decide ((0 : Int) ≤ x8.2.1)) && (Decidable.decide (x8.2.1 ≤ x8.2.1))) && (Decidable.decide (x8.2.1 ≤ (((List.length x8.1.1.1) : Nat) : Int)))) = Bool.true) then
  (lt (List.take (Int.toNat x8.2.1) x8.1.1.1) fun (x10 : (List Int)) =>
  (if (((((Decidable.decide ((0 : Int) ≤ x8.2.1)) && Bool.true) && (Decidable.decide ((Int.toNat x8.2.1) ≤ (List.length x8.1.1.1)))) && (Decidable.decide ((List.length x8.1.1.1) ≤ (List.length x8.1.1.1)))) = Bool.true) then
  (Option.some ((x10, ()), (((List.drop (Int.toNat x8.2.1) (List.take (List.length x8.1.1.1) x8.1.1.1)), x8.1.1.2), ())))
  else (Option.none)))
  else (Option.none)))))
def d54 : (Nat → ((((List Int) × (Int × Unit)) × (Int × Unit)) → (Option (((List Int) × Unit) × (((List Int) × (Int × Unit)) × Unit))))) :=
  (fun (x0 : Nat) => (fun (x1 : (((List Int) × (Int × Unit)) × (Int × Unit))) => (lt (x1.1.2.1 == (0 : Int)) fun (x2 : Bool) =>
  (lt (Decidable.decide (x1.2.1 < (0 : Int))) fun (x3 : Bool) =>
  (lt (((List.length x1.1.1) : Nat) : Int) fun (x4 : Int) =>
  (lt (Decidable.decide (x1.2.1 > x4)) fun (x5 : Bool) =>
  (lt (if (x3 = Bool.true) then
  Bool.true
  else x5) fun (x6 : Bool) =>
  (lt (if (x2 = Bool.true) then
  x6
  else Bool.false) fun (x7 : Bool) =>
  (shr d54_K1 (fun (x8 : (((((List Int) × (Int × Unit)) × Unit) × (Int × Unit)) → (Option (((List Int) × Unit) × (((List Int) × (Int × Unit)) × Unit))))) => (if (x7 = Bool.true) then
  (x8 (((x1.1.1, ((20 : Int), x1.1.2.2)), ()), (x1.2.1, ())))
  else (x8 ((x1.1, ()), (x1.2.1, ()))))))))))))))
theorem k54 : c_fn Tryz.prog [] Tryz.f54 s54 h54 = some d54 := by kernel_rfl
/-- (*bulkhead/codec.Reader).number -/
def s40 : Sig := ⟨[((.ptr 81 (.pair (.sl 5 (.int .u8)) (.pair (.int .i64) .unit))), (.mut (.ow .sh))), ((.int .i64), .val)], [((.int .u64), .val)]⟩
 def h40 : Hint := (.seq .leaf
   (.seq .leaf
   (.seq (.seq .leaf
   (.block ⟨[((.ptr 81 (.pair (.sl 5 (.int .u8)) (.pair (.int .i64) .unit))), (.ow .sh), (0, 0))], [((0, 0), (.own 0)), ((5, 0), (.val (.int .u64)))]⟩ true
     (.loop ⟨[((.ptr 81 (.pair (.sl 5 (.int .u8)) (.pair (.int .i64) .unit))), (.ow .sh), (0, 0))], [((12, 0), (.val (.int .i64))), ((5, 0), (.val (.int .u64))), ((10, 0), (.val (.sl 5 (.int .u8)))), ((0, 0), (.own 0)), ((11, 0), (.val (.int .i64)))]⟩
       (.seq .leaf
       (.seq (.cond none
         .leaf
         .leaf)
       (.seq (.block ⟨[((.ptr 81 (.pair (.sl 5 (.int .u8)) (.pair (.int .i64) .unit))), (.ow .sh), (0, 0))], [((5, 0), (.val (.int .u64))), ((10, 0), (.val (.sl 5 (.int .u8)))), ((0, 0), (.own 0)), ((11, 0), (.val (.int .i64))), ((12, 0), (.val (.int .i64)))]⟩ true
         (.seq .leaf
         .leaf))
       .leaf))))))
   (.seq .leaf
   .leaf))))
def d40_K1  : (((((List Int) × (Int × Unit)) × Unit) × (Int × Unit)) → (Option ((Int × Unit) × (((List Int) × (Int × Unit)) × Unit)))) :=
  (fun (x3 : ((((List Int) × (Int × Unit)) × Unit) × (Int × Unit))) => (Option.some ((x3.2.1, ()), (x3.1.1, ()))))
def d40_K2 (x4 : (((((List Int) × (Int × Unit)) × Unit) × (Int × (Int × ((List Int) × (Int × Unit))))) → (Option ((Int × Unit) × (((List Int) × (Int × Unit)) × Unit))))) : (((((List Int) × (Int × Unit)) × Unit) × (Int × ((List Int) × (Int × (Int × Unit))))) → (Option ((Int × Unit) × (((List Int) × (Int × Unit)) × Unit)))) :=
  (fun (x7 : ((((List Int) × (Int × Unit)) × Unit) × (Int × ((List Int) × (Int × (Int × Unit)))))) => (x4 ((x7.1.1, ()), ((Go.IntKind.wrap Go.IntKind.i64 (x7.2.2.2.2.1 + (1 : Int))), (x7.2.1, (x7.2.2.1, (x7.2.2.2.1, ())))))))
def d40_L3 (x3 : (((((List Int) × (Int × Unit)) × Unit) × (Int × Unit)) → (Option ((Int × Unit) × (((List Int) × (Int × Unit)) × Unit))))) : ((((((List Int) × (Int × Unit)) × Unit) × (Int × (Int × ((List Int) × (Int × Unit))))) → (Option ((Int × Unit) × (((List Int) × (Int × Unit)) × Unit)))) → (((((List Int) × (Int × Unit)) × Unit) × (Int × (Int × ((List Int) × (Int × Unit))))) → (Option ((Int × Unit) × (((List Int) × (Int × Unit)) × Unit))))) :=
  (fun (x4 : (((((List Int) × (Int × Unit)) × Unit) × (Int × (Int × ((List Int) × (Int × Unit))))) → (Option ((Int × Unit) × (((List Int) × (Int × Unit)) × Unit))))) => (fun (x5 : ((((List Int) × (Int × Unit)) × Unit) × (Int × (Int × ((List Int) × (Int × Unit)))))) => (lt (Decidable.decide (x5.2.1 < x5.2.2.2.2.1)) fun (x6 : Bool) =>
  (if (x6 = Bool.true) then
  (shr (d40_K2 x4) (fun (x7 : (((((List Int) × (Int × Unit)) × Unit) × (Int × ((List Int) × (Int × (Int × Unit))))) → (Option ((Int × Unit) × (((List Int) × (Int × Unit)) × Unit))))) => (if (((Decidable.decide ((0 : Int) ≤ x5.2.1)) && (Decidable.decide (x5.2.1 < (((List.length x5.2.2.2.1) : Nat) : Int)))) = Bool.true) then
  (lt (List.getD x5.2.2.2.1 (Int.toNat x5.2.1) (0 : Int)) fun (x8 : Int) =>
  (if ((Bool.not (Decidable.decide ((8 : Int) < (0 : Int)))) = Bool.true) then
  (x7 ((x5.1.1, ()), ((Go.IntKind.wrap Go.IntKind.u64 (((BitVec.toNat ((BitVec.ofInt (Go.IntKind.bits Go.IntKind.u64) (Go.IntKind.wrap Go.IntKind.u64 (x5.2.2.1 * (HPow.hPow (2 : Int) (Min.min (Int.toNat (8 : Int)) (Go.IntKind.bits Go.IntKind.u64)))))) ||| (BitVec.ofInt (Go.IntKind.bits Go.IntKind.u64) (Go.IntKind.wrap Go.IntKind.u64 x8)))) : Nat) : Int)), (x5.2.2.2.1, (x5.2.2.2.2.1, (x5.2.1, ()))))))
  else (Option.none)))
  else (Option.none))))
  else (x3 ((x5.1.1, ()), (x5.2.2.1, ())))))))
def d40 : (Nat → ((((List Int) × (Int × Unit)) × (Int × Unit)) → (Option ((Int × Unit) × (((List Int) × (Int × Unit)) × Unit))))) :=
  (fun (x0 : Nat) => (fun (x1 : (((List Int) × (Int × Unit)) × (Int × Unit))) => (Option.bind (d54 x0 (x1.1, (x1.2.1, ()))) fun (x2 : (((List Int) × Unit) × (((List Int) × (Int × Unit)) × Unit))) =>
  (shr d40_K1 (fun (x3 : (((((List Int) × (Int × Unit)) × Unit) × (Int × Unit)) → (Option ((Int × Unit) × (((List Int) × (Int × Unit)) × Unit))))) => (loopN (d40_L3 x3) x0 ((x2.2.1, ()), ((0 : Int), ((0 : Int), (x2.1.1, ((((List.length x2.1.1) : Nat) : Int), ())))))))))))
theorem k40 : c_fn Tryz.prog [(54, ⟨s54, d54⟩)] Tryz.f40 s40 h40 = some d40 := by kernel_rfl
/-- (*bulkhead/codec.Reader).U32 -/
def s19 : Sig := ⟨[((.ptr 81 (.pair (.sl 5 (.int .u8)) (.pair (.int .i64) .unit))), (.mut (.ow .sh)))], [((.int .i64), .val)]⟩
 def h19 : Hint := (.seq .leaf
   (.seq .leaf
   .leaf))
def d19 : (Nat → ((((List Int) × (Int × Unit)) × Unit) → (Option ((Int × Unit) × (((List Int) × (Int × Unit)) × Unit))))) :=
  (fun (x0 : Nat) => (fun (x1 : (((List Int) × (Int × Unit)) × Unit)) => (Option.bind (d40 x0 (x1.1, ((4 : Int), ()))) fun (x2 : ((Int × Unit) × (((List Int) × (Int × Unit)) × Unit))) =>
  (Option.some (((Go.IntKind.wrap Go.IntKind.i64 x2.1.1), ()), (x2.2.1, ()))))))
theorem k19 : c_fn Tryz.prog [(40, ⟨s40, d40⟩)] Tryz.f19 s19 h19 = some d19 := by kernel_rfl
/-- slices.Clip[[]bulkhead/api.Input,bulkhead/api.Input] -/
def s41 : Sig := ⟨[((.sl 25 (.pair (.int .i64) (.pair (.int .i64) (.pair (.int .i64) (.pair (.sl 2 (.int .i64)) .unit))))), .val)], [((.sl 25 (.pair (.int .i64) (.pair (.int .i64) (.pair (.int .i64) (.pair (.sl 2 (.int .i64)) .unit))))), .val)]⟩
 def h41 : Hint := (.seq .leaf
   (.seq .leaf
   .leaf))
def d41 : (Nat → (((List IN) × Unit) → (Option (((List IN) × Unit) × Unit)))) :=
  (fun (x0 : Nat) => (fun (x1 : ((List IN) × Unit)) => (lt (((List.length x1.1) : Nat) : Int) fun (x2 : Int) =>
  (lt (((List.length x1.1) : Nat) : Int) fun (x3 : Int) =>
  (if ((((Decidable.decide ((0 : Int) ≤ x2)) && (Decidable.decide (x2 ≤ x3))) && (Decidable.decide (x3 ≤ (((List.length x1.1) : Nat) : Int)))) = Bool.true) then
  (Option.some (((List.take (Int.toNat x2) x1.1), ()), ()))
  else (Option.none))))))
theorem k41 : c_fn Tryz.prog [] Tryz.f41 s41 h41 = some d41 := by kernel_rfl
/-- (*bulkhead/codec.Reader).I64 -/
def s42 : Sig := ⟨[((.ptr 81 (.pair (.sl 5 (.int .u8)) (.pair (.int .i64) .unit))), (.mut (.ow .sh)))], [((.int .i64), .val)]⟩
 def h42 : Hint := (.seq .leaf
   (.seq .leaf
   .leaf))
def d42 : (Nat → ((((List Int) × (Int × Unit)) × Unit) → (Option ((Int × Unit) × (((List Int) × (Int × Unit)) × Unit))))) :=
  (fun (x0 : Nat) => (fun (x1 : (((List Int) × (Int × Unit)) × Unit)) => (Option.bind (d40 x0 (x1.1, ((8 : Int), ()))) fun (x2 : ((Int × Unit) × (((List Int) × (Int × Unit)) × Unit))) =>
  (Option.some (((Go.IntKind.wrap Go.IntKind.i64 x2.1.1), ()), (x2.2.1, ()))))))
theorem k42 : c_fn Tryz.prog [(40, ⟨s40, d40⟩)] Tryz.f42 s42 h42 = some d42 := by kernel_rfl
/-- slices.Clip[[]int64,int64] -/
def s55 : Sig := ⟨[((.sl 2 (.int .i64)), .val)], [((.sl 2 (.int .i64)), .val)]⟩
 def h55 : Hint := (.seq .leaf
   (.seq .leaf
   .leaf))
def d55 : (Nat → (((List Int) × Unit) → (Option (((List Int) × Unit) × Unit)))) :=
  (fun (x0 : Nat) => (fun (x1 : ((List Int) × Unit)) => (lt (((List.length x1.1) : Nat) : Int) fun (x2 : Int) =>
  (lt (((List.length x1.1) : Nat) : Int) fun (x3 : Int) =>
  (if ((((Decidable.decide ((0 : Int) ≤ x2)) && (Decidable.decide (x2 ≤ x3))) && (Decidable.decide (x3 ≤ (((List.length x1.1) : Nat) : Int)))) = Bool.true) then
  (Option.some (((List.take (Int.toNat x2) x1.1), ()), ()))
  else (Option.none))))))
theorem k55 : c_fn Tryz.prog [] Tryz.f55 s55 h55 = some d55 := by kernel_rfl
/-- bulkhead/codec.GetList[int64] -/
def s43 : Sig := ⟨[((.ptr 81 (.pair (.sl 5 (.int .u8)) (.pair (.int .i64) .unit))), (.mut (.ow .sh))), ((.int .i64), .val), ((.fn 42 .unit), .val)], [((.sl 2 (.int .i64)), .val)]⟩
 def h43 : Hint := (.seq .leaf
   (.seq (.seq .leaf
   (.cond none
     (.seq .leaf
     .leaf)
     .leaf))
   (.seq .leaf
   (.seq .leaf
   (.seq (.block ⟨[((.ptr 81 (.pair (.sl 5 (.int .u8)) (.pair (.int .i64) .unit))), (.ow .sh), (0, 0)), ((.ptr 81 (.pair (.sl 5 (.int .u8)) (.pair (.int .i64) .unit))), (.ow .sh), (7, 0))], [((0, 0), (.own 0)), ((2, 0), (.val (.fn 42 .unit))), ((8, 0), (.val (.int .i64))), ((7, 0), (.own 1))]⟩ true
     (.seq .leaf
     (.cond none
       (.seq .leaf
       (.seq .leaf
       .leaf))
       (.seq .leaf
       (.cond none
         (.seq .leaf
         (.seq .leaf
         .leaf))
         (.seq .leaf
         (.cond none
           (.seq .leaf
           (.seq .leaf
           .leaf))
           .leaf)))))))
   (.seq .leaf
   (.seq .leaf
   (.seq (.seq .leaf
   (.block ⟨[((.ptr 81 (.pair (.sl 5 (.int .u8)) (.pair (.int .i64) .unit))), (.ow .sh), (0, 0)), ((.sl 2 (.int .i64)), (.ow .sh), (9, 0))], [((0, 0), (.own 0)), ((9, 0), (.own 1))]⟩ true
     (.loop ⟨[((.ptr 81 (.pair (.sl 5 (.int .u8)) (.pair (.int .i64) .unit))), (.ow .sh), (0, 0)), ((.sl 2 (.int .i64)), (.ow .sh), (9, 0))], [((0, 0), (.own 0)), ((48, 0), (.val (.int .i64))), ((2, 0), (.val (.fn 42 .unit))), ((9, 0), (.own 1)), ((47, 0), (.val (.int .i64)))]⟩
       (.seq .leaf
       (.seq (.cond none
         .leaf
         .leaf)
       (.seq (.block ⟨[((.ptr 81 (.pair (.sl 5 (.int .u8)) (.pair (.int .i64) .unit))), (.ow .sh), (0, 0)), ((.sl 2 (.int .i64)), (.ow .sh), (9, 0))], [((0, 0), (.own 0)), ((2, 0), (.val (.fn 42 .unit))), ((9, 0), (.own 1)), ((47, 0), (.val (.int .i64))), ((48, 0), (.val (.int .i64)))]⟩ true
         (.seq .leaf
         (.seq .leaf
         (.cond none
           (.seq .leaf
           .leaf)
           .leaf))))
       .leaf))))))
   (.seq (.pre ⟨[((.ptr 81 (.pair (.sl 5 (.int .u8)) (.pair (.int .i64) .unit))), (.ow .sh), (0, 0))], [((0, 0), (.own 0)), ((9, 0), (.val (.sl 2 (.int .i64))))]⟩ .leaf)
   .leaf)))))))))
def d43_K1 (x0 : Nat) : (((((List Int) × (Int × Unit)) × ((List Int) × Unit)) × Unit) → (Option (((List Int) × Unit) × (((List Int) × (Int × Unit)) × Unit)))) :=
  (fun (x5 : ((((List Int) × (Int × Unit)) × ((List Int) × Unit)) × Unit)) => (Option.bind (d55 x0 (x5.1.2.1, ())) fun (x6 : (((List Int) × Unit) × Unit)) =>
  (Option.some ((x6.1.1, ()), (x5.1.1, ())))))
def d43_K2 (x6 : (((((List Int) × (Int × Unit)) × ((List Int) × Unit)) × (Int × (Unit × (Int × Unit)))) → (Option (((List Int) × Unit) × (((List Int) × (Int × Unit)) × Unit))))) : (((((List Int) × (Int × Unit)) × ((List Int) × Unit)) × (Unit × (Int × (Int × Unit)))) → (Option (((List Int) × Unit) × (((List Int) × (Int × Unit)) × Unit)))) :=
  (fun (x9 : ((((List Int) × (Int × Unit)) × ((List Int) × Unit)) × (Unit × (Int × (Int × Unit))))) => (x6 ((x9.1.1, (x9.1.2.1, ())), ((Go.IntKind.wrap Go.IntKind.i64 (x9.2.2.2.1 + (1 : Int))), (x9.2.1, (x9.2.2.1, ()))))))
def d43_L3 (x0 : Nat) (x5 : (((((List Int) × (Int × Unit)) × ((List Int) × Unit)) × Unit) → (Option (((List Int) × Unit) × (((List Int) × (Int × Unit)) × Unit))))) : ((((((List Int) × (Int × Unit)) × ((List Int) × Unit)) × (Int × (Unit × (Int × Unit)))) → (Option (((List Int) × Unit) × (((List Int) × (Int × Unit)) × Unit)))) → (((((List Int) × (Int × Unit)) × ((List Int) × Unit)) × (Int × (Unit × (Int × Unit)))) → (Option (((List Int) × Unit) × (((List Int) × (Int × Unit)) × Unit))))) :=
  (fun (x6 : (((((List Int) × (Int × Unit)) × ((List Int) × Unit)) × (Int × (Unit × (Int × Unit)))) → (Option (((List Int) × Unit) × (((List Int) × (Int × Unit)) × Unit))))) => (fun (x7 : ((((List Int) × (Int × Unit)) × ((List Int) × Unit)) × (Int × (Unit × (Int × Unit))))) => (lt (Decidable.decide (x7.2.1 < x7.2.2.2.1)) fun (x8 : Bool) =>
  (if (x8 = Bool.true) then
  (shr (d43_K2 x6) (fun (x9 : (((((List Int) × (Int × Unit)) × ((List Int) × Unit)) × (Unit × (Int × (Int × Unit)))) → (Option (((List Int) × Unit) × (((List Int) × (Int × Unit)) × Unit))))) => (Option.bind (d42 x0 (x7.1.1, ())) fun (x10 : ((Int × Unit) × (((List Int) × (Int × Unit)) × Unit))) =>
  (lt (x10.1.1 :: ([] : List Int)) fun (x11 : (List Int)) =>
  (if ((Go.Lift.appFits (List.length x7.1.2.1) (List.length x11) (8 : Nat)) = Bool.true) then
  (lt (x7.1.2.1 ++ x11) fun (x12 : (List Int)) =>
  (lt (x10.2.1.2.1 != (0 : Int)) fun (x13 : Bool) =>
  (if (x13 = Bool.true) then
  (Option.some ((([] : List Int), ()), (x10.2.1, ())))
  else (x9 ((x10.2.1, (x12, ())), (x7.2.2.1, (x7.2.2.2.1, (x7.2.1, ()))))))))
  else (Option.none))))))
  else (x5 ((x7.1.1, (x7.1.2.1, ())), ()))))))
def d43_K4 (x0 : Nat) : (((((List Int) × (Int × Unit)) × (((List Int) × (Int × Unit)) × Unit)) × (Unit × (Int × Unit))) → (Option (((List Int) × Unit) × (((List Int) × (Int × Unit)) × Unit)))) :=
  (fun (x4 : ((((List Int) × (Int × Unit)) × (((List Int) × (Int × Unit)) × Unit)) × (Unit × (Int × Unit)))) => (shr (d43_K1 x0) (fun (x5 : (((((List Int) × (Int × Unit)) × ((List Int) × Unit)) × Unit) → (Option (((List Int) × Unit) × (((List Int) × (Int × Unit)) × Unit))))) => (loopN (d43_L3 x0 x5) x0 ((x4.1.2.1, (([] : List Int), ())), ((0 : Int), (x4.2.1, (x4.2.2.1, ()))))))))
def d43 : (Nat → ((((List Int) × (Int × Unit)) × (Int × (Unit × Unit))) → (Option (((List Int) × Unit) × (((List Int) × (Int × Unit)) × Unit))))) :=
  (fun (x0 : Nat) => (fun (x1 : (((List Int) × (Int × Unit)) × (Int × (Unit × Unit)))) => (lt (x1.1.2.1 != (0 : Int)) fun (x2 : Bool) =>
  (if (x2 = Bool.true) then
  (Option.some ((([] : List Int), ()), (x1.1, ())))
  else (Option.bind (d19 x0 (x1.1, ())) fun (x3 : ((Int × Unit) × (((List Int) × (Int × Unit)) × Unit))) =>
  (shr (d43_K4 x0) (fun (x4 : (((((List Int) × (Int × Unit)) × (((List Int) × (Int × Unit)) × Unit)) × (Unit × (Int × Unit))) → (Option (((List Int) × Unit) × (((List Int) × (Int × Unit)) × Unit))))) => (lt (x3.2.1.2.1 != (0 : Int)) fun (x5 : Bool) =>
  (if (x5 = Bool.true) then
  (Option.some ((([] : List Int), ()), ((x1.1.1, (x3.2.1.2.1, x1.1.2.2)), ())))
  else (lt (Decidable.decide (x3.1.1 > x1.2.1)) fun (x6 : Bool) =>
  (if (x6 = Bool.true) then
  (Option.some ((([] : List Int), ()), ((x1.1.1, ((1 : Int), x1.1.2.2)), ())))
  else (lt (((List.length x3.2.1.1) : Nat) : Int) fun (x7 : Int) =>
  (lt (Decidable.decide (x3.1.1 > x7)) fun (x8 : Bool) =>
  (if (x8 = Bool.true) then
  (Option.some ((([] : List Int), ()), ((x1.1.1, ((20 : Int), x1.1.2.2)), ())))
  else (x4 ((x1.1, (x3.2.1, ())), (x1.2.2.1, (x3.1.1, ()))))))))))))))))))
theorem k43 : c_fn Tryz.prog [(19, ⟨s19, d19⟩), (55, ⟨s55, d55⟩), (42, ⟨s42, d42⟩)] Tryz.f43 s43 h43 = some d43 := by kernel_rfl
/-- bulkhead/script.get -/
def s21 : Sig := ⟨[((.ptr 81 (.pair (.sl 5 (.int .u8)) (.pair (.int .i64) .unit))), (.mut (.ow .sh)))], [((.pair (.int .i64) (.pair (.int .i64) (.pair (.int .i64) (.pair (.sl 2 (.int .i64)) .unit)))), .val)]⟩
 def h21 : Hint := (.seq .leaf
   (.seq .leaf
   .leaf))
def d21 : (Nat → ((((List Int) × (Int × Unit)) × Unit) → (Option ((IN × Unit) × (((List Int) × (Int × Unit)) × Unit))))) :=
  (fun (x0 : Nat) => (fun (x1 : (((List Int) × (Int × Unit)) × Unit)) => (Option.bind (d42 x0 (x1.1, ())) fun (x2 : ((Int × Unit) × (((List Int) × (Int × Unit)) × Unit))) =>
  (Option.bind (d42 x0 (x2.2.1, ())) fun (x3 : ((Int × Unit) × (((List Int) × (Int × Unit)) × Unit))) =>
  (Option.bind (d42 x0 (x3.2.1, ())) fun (x4 : ((Int × Unit) × (((List Int) × (Int × Unit)) × Unit))) =>
  (Option.bind (d43 x0 (x4.2.1, ((4194316 : Int), ((), ())))) fun (x5 : (((List Int) × Unit) × (((List Int) × (Int × Unit)) × Unit))) =>
  (Option.some (((x2.1.1, (x3.1.1, (x4.1.1, (x5.1.1, ())))), ()), (x5.2.1, ())))))))))
theorem k21 : c_fn Tryz.prog [(42, ⟨s42, d42⟩), (43, ⟨s43, d43⟩)] Tryz.f21 s21 h21 = some d21 := by kernel_rfl
/-- bulkhead/codec.GetList[bulkhead/api.Input] -/
def s20 : Sig := ⟨[((.ptr 81 (.pair (.sl 5 (.int .u8)) (.pair (.int .i64) .unit))), (.mut (.ow .sh))), ((.int .i64), .val), ((.fn 21 .unit), .val)], [((.sl 25 (.pair (.int .i64) (.pair (.int .i64) (.pair (.int .i64) (.pair (.sl 2 (.int .i64)) .unit))))), .val)]⟩
 def h20 : Hint := (.seq .leaf
   (.seq (.seq .leaf
   (.cond none
     (.seq .leaf
     .leaf)
     .leaf))
   (.seq .leaf
   (.seq .leaf
   (.seq (.block ⟨[((.ptr 81 (.pair (.sl 5 (.int .u8)) (.pair (.int .i64) .unit))), (.ow .sh), (0, 0)), ((.ptr 81 (.pair (.sl 5 (.int .u8)) (.pair (.int .i64) .unit))), (.ow .sh), (7, 0))], [((0, 0), (.own 0)), ((2, 0), (.val (.fn 21 .unit))), ((8, 0), (.val (.int .i64))), ((7, 0), (.own 1))]⟩ true
     (.seq .leaf
     (.cond none
       (.seq .leaf
       (.seq .leaf
       .leaf))
       (.seq .leaf
       (.cond none
         (.seq .leaf
         (.seq .leaf
         .leaf))
         (.seq .leaf
         (.cond none
           (.seq .leaf
           (.seq .leaf
           .leaf))
           .leaf)))))))
   (.seq .leaf
   (.seq .leaf
   (.seq (.seq .leaf
   (.block ⟨[((.ptr 81 (.pair (.sl 5 (.int .u8)) (.pair (.int .i64) .unit))), (.ow .sh), (0, 0)), ((.sl 25 (.pair (.int .i64) (.pair (.int .i64) (.pair (.int .i64) (.pair (.sl 2 (.int .i64)) .unit))))), (.ow .sh), (9, 0))], [((0, 0), (.own 0)), ((9, 0), (.own 1))]⟩ true
     (.loop ⟨[((.ptr 81 (.pair (.sl 5 (.int .u8)) (.pair (.int .i64) .unit))), (.ow .sh), (0, 0)), ((.sl 25 (.pair (.int .i64) (.pair (.int .i64) (.pair (.int .i64) (.pair (.sl 2 (.int .i64)) .unit))))), (.ow .sh), (9, 0))], [((0, 0), (.own 0)), ((48, 0), (.val (.int .i64))), ((2, 0), (.val (.fn 21 .unit))), ((9, 0), (.own 1)), ((47, 0), (.val (.int .i64)))]⟩
       (.seq .leaf
       (.seq (.cond none
         .leaf
         .leaf)
       (.seq (.block ⟨[((.ptr 81 (.pair (.sl 5 (.int .u8)) (.pair (.int .i64) .unit))), (.ow .sh), (0, 0)), ((.sl 25 (.pair (.int .i64) (.pair (.int .i64) (.pair (.int .i64) (.pair (.sl 2 (.int .i64)) .unit))))), (.ow .sh), (9, 0))], [((0, 0), (.own 0)), ((2, 0), (.val (.fn 21 .unit))), ((9, 0), (.own 1)), ((47, 0), (.val (.int .i64))), ((48, 0), (.val (.int .i64)))]⟩ true
         (.seq .leaf
         (.seq .leaf
         (.cond none
           (.seq .leaf
           .leaf)
           .leaf))))
       .leaf))))))
   (.seq (.pre ⟨[((.ptr 81 (.pair (.sl 5 (.int .u8)) (.pair (.int .i64) .unit))), (.ow .sh), (0, 0))], [((0, 0), (.own 0)), ((9, 0), (.val (.sl 25 (.pair (.int .i64) (.pair (.int .i64) (.pair (.int .i64) (.pair (.sl 2 (.int .i64)) .unit)))))))]⟩ .leaf)
   .leaf)))))))))
def d20_K1 (x0 : Nat) : (((((List Int) × (Int × Unit)) × ((List IN) × Unit)) × Unit) → (Option (((List IN) × Unit) × (((List Int) × (Int × Unit)) × Unit)))) :=
  (fun (x5 : ((((List Int) × (Int × Unit)) × ((List IN) × Unit)) × Unit)) => (Option.bind (d41 x0 (x5.1.2.1, ())) fun (x6 : (((List IN) × Unit) × Unit)) =>
  (Option.some ((x6.1.1, ()), (x5.1.1, ())))))
def d20_K2 (x6 : (((((List Int) × (Int × Unit)) × ((List IN) × Unit)) × (Int × (Unit × (Int × Unit)))) → (Option (((List IN) × Unit) × (((List Int) × (Int × Unit)) × Unit))))) : (((((List Int) × (Int × Unit)) × ((List IN) × Unit)) × (Unit × (Int × (Int × Unit)))) → (Option (((List IN) × Unit) × (((List Int) × (Int × Unit)) × Unit)))) :=
  (fun (x9 : ((((List Int) × (Int × Unit)) × ((List IN) × Unit)) × (Unit × (Int × (Int × Unit))))) => (x6 ((x9.1.1, (x9.1.2.1, ())), ((Go.IntKind.wrap Go.IntKind.i64 (x9.2.2.2.1 + (1 : Int))), (x9.2.1, (x9.2.2.1, ()))))))
def d20_L3 (x0 : Nat) (x5 : (((((List Int) × (Int × Unit)) × ((List IN) × Unit)) × Unit) → (Option (((List IN) × Unit) × (((List Int) × (Int × Unit)) × Unit))))) : ((((((List Int) × (Int × Unit)) × ((List IN) × Unit)) × (Int × (Unit × (Int × Unit)))) → (Option (((List IN) × Unit) × (((List Int) × (Int × Unit)) × Unit)))) → (((((List Int) × (Int × Unit)) × ((List IN) × Unit)) × (Int × (Unit × (Int × Unit)))) → (Option (((List IN) × Unit) × (((List Int) × (Int × Unit)) × Unit))))) :=
  (fun (x6 : (((((List Int) × (Int × Unit)) × ((List IN) × Unit)) × (Int × (Unit × (Int × Unit)))) → (Option (((List IN) × Unit) × (((List Int) × (Int × Unit)) × Unit))))) => (fun (x7 : ((((List Int) × (Int × Unit)) × ((List IN) × Unit)) × (Int × (Unit × (Int × Unit))))) => (lt (Decidable.decide (x7.2.1 < x7.2.2.2.1)) fun (x8 : Bool) =>
  (if (x8 = Bool.true) then
  (shr (d20_K2 x6) (fun (x9 : (((((List Int) × (Int × Unit)) × ((List IN) × Unit)) × (Unit × (Int × (Int × Unit)))) → (Option (((List IN) × Unit) × (((List Int) × (Int × Unit)) × Unit))))) => (Option.bind (d21 x0 (x7.1.1, ())) fun (x10 : ((IN × Unit) × (((List Int) × (Int × Unit)) × Unit))) =>
  (lt (x10.1.1 :: ([] : List IN)) fun (x11 : (List IN)) =>
  (if ((Go.Lift.appFits (List.length x7.1.2.1) (List.length x11) (48 : Nat)) = Bool.true) then
  (lt (x7.1.2.1 ++ x11) fun (x12 : (List IN)) =>
  (lt (x10.2.1.2.1 != (0 : Int)) fun (x13 : Bool) =>
  (if (x13 = Bool.true) then
  (Option.some ((([] : List IN), ()), (x10.2.1, ())))
  else (x9 ((x10.2.1, (x12, ())), (x7.2.2.1, (x7.2.2.2.1, (x7.2.1, ()))))))))
  else (Option.none))))))
  else (x5 ((x7.1.1, (x7.1.2.1, ())), ()))))))
def d20_K4 (x0 : Nat) : (((((List Int) × (Int × Unit)) × (((List Int) × (Int × Unit)) × Unit)) × (Unit × (Int × Unit))) → (Option (((List IN) × Unit) × (((List Int) × (Int × Unit)) × Unit)))) :=
  (fun (x4 : ((((List Int) × (Int × Unit)) × (((List Int) × (Int × Unit)) × Unit)) × (Unit × (Int × Unit)))) => (shr (d20_K1 x0) (fun (x5 : (((((List Int) × (Int × Unit)) × ((List IN) × Unit)) × Unit) → (Option (((List IN) × Unit) × (((List Int) × (Int × Unit)) × Unit))))) => (loopN (d20_L3 x0 x5) x0 ((x4.1.2.1, (([] : List IN), ())), ((0 : Int), (x4.2.1, (x4.2.2.1, ()))))))))
def d20 : (Nat → ((((List Int) × (Int × Unit)) × (Int × (Unit × Unit))) → (Option (((List IN) × Unit) × (((List Int) × (Int × Unit)) × Unit))))) :=
  (fun (x0 : Nat) => (fun (x1 : (((List Int) × (Int × Unit)) × (Int × (Unit × Unit)))) => (lt (x1.1.2.1 != (0 : Int)) fun (x2 : Bool) =>
  (if (x2 = Bool.true) then
  (Option.some ((([] : List IN), ()), (x1.1, ())))
  else (Option.bind (d19 x0 (x1.1, ())) fun (x3 : ((Int × Unit) × (((List Int) × (Int × Unit)) × Unit))) =>
  (shr (d20_K4 x0) (fun (x4 : (((((List Int) × (Int × Unit)) × (((List Int) × (Int × Unit)) × Unit)) × (Unit × (Int × Unit))) → (Option (((List IN) × Unit) × (((List Int) × (Int × Unit)) × Unit))))) => (lt (x3.2.1.2.1 != (0 : Int)) fun (x5 : Bool) =>
  (if (x5 = Bool.true) then
  (Option.some ((([] : List IN), ()), ((x1.1.1, (x3.2.1.2.1, x1.1.2.2)), ())))
  else (lt (Decidable.decide (x3.1.1 > x1.2.1)) fun (x6 : Bool) =>
  (if (x6 = Bool.true) then
  (Option.some ((([] : List IN), ()), ((x1.1.1, ((1 : Int), x1.1.2.2)), ())))
  else (lt (((List.length x3.2.1.1) : Nat) : Int) fun (x7 : Int) =>
  (lt (Decidable.decide (x3.1.1 > x7)) fun (x8 : Bool) =>
  (if (x8 = Bool.true) then
  (Option.some ((([] : List IN), ()), ((x1.1.1, ((20 : Int), x1.1.2.2)), ())))
  else (x4 ((x1.1, (x3.2.1, ())), (x1.2.2.1, (x3.1.1, ()))))))))))))))))))
theorem k20 : c_fn Tryz.prog [(19, ⟨s19, d19⟩), (41, ⟨s41, d41⟩), (21, ⟨s21, d21⟩)] Tryz.f20 s20 h20 = some d20 := by kernel_rfl
/-- (*bulkhead/codec.Reader).Done -/
def s22 : Sig := ⟨[((.ptr 81 (.pair (.sl 5 (.int .u8)) (.pair (.int .i64) .unit))), .val)], [((.int .i64), .val)]⟩
 def h22 : Hint := (.seq .leaf
   (.seq (.seq .leaf
   (.cond none
     (.seq .leaf
     .leaf)
     .leaf))
   (.seq .leaf
   .leaf)))
def d22 : (Nat → ((((List Int) × (Int × Unit)) × Unit) → (Option ((Int × Unit) × Unit)))) :=
  (fun (x0 : Nat) => (fun (x1 : (((List Int) × (Int × Unit)) × Unit)) => (lt (x1.1.2.1 == (0 : Int)) fun (x2 : Bool) =>
  (lt (((List.length x1.1.1) : Nat) : Int) fun (x3 : Int) =>
  (lt (Decidable.decide (x3 > (0 : Int))) fun (x4 : Bool) =>
  (lt (if (x2 = Bool.true) then
  x4
  else Bool.false) fun (x5 : Bool) =>
  (if (x5 = Bool.true) then
  (Option.some (((20 : Int), ()), ()))
  else (Option.some ((x1.1.2.1, ()), ())))))))))
theorem k22 : c_fn Tryz.prog [] Tryz.f22 s22 h22 = some d22 := by kernel_rfl
/-- bulkhead/script.Decode -/
def s7 : Sig := ⟨[((.sl 5 (.int .u8)), (.tak (.ow .sh)))], [((.sl 25 (.pair (.int .i64) (.pair (.int .i64) (.pair (.int .i64) (.pair (.sl 2 (.int .i64)) .unit))))), .val), ((.int .i64), .val)]⟩
 def h7 : Hint := (.seq .leaf
   (.seq .leaf
   (.seq (.seq .leaf
   (.cond none
     (.seq .leaf
     .leaf)
     .leaf))
   (.seq (.seq .leaf
   (.seq (.pre ⟨[((.sl 5 (.int .u8)), (.ow .sh), (4, 0)), ((.ptr 81 (.pair (.sl 5 (.int .u8)) (.pair (.int .i64) .unit))), (.ow .sh), (6, 0))], [((4, 0), (.own 0)), ((6, 0), (.own 1))]⟩ .leaf)
   (.cond none
     (.seq .leaf
     .leaf)
     .leaf)))
   (.seq .leaf
   (.seq (.pre ⟨[((.ptr 81 (.pair (.sl 5 (.int .u8)) (.pair (.int .i64) .unit))), (.ow .sh), (7, 0))], [((7, 0), (.own 0))]⟩ .leaf)
   (.seq (.seq .leaf
   (.cond none
     (.seq .leaf
     .leaf)
     .leaf))
   (.seq .leaf
   .leaf))))))))
def d7 : (Nat → (((List Int) × Unit) → (Option (((List IN) × (Int × Unit)) × Unit)))) :=
  (fun (x0 : Nat) => (fun (x1 : ((List Int) × Unit)) => (Option.bind (d17 x0 ((3 : Int), (x1.1, ()))) fun (x2 : (((List Int) × (Int × Unit)) × Unit)) =>
  (lt (x2.1.2.1 != (0 : Int)) fun (x3 : Bool) =>
  (if (x3 = Bool.true) then
  (Option.some ((([] : List IN), (x2.1.2.1, ())), ()))
  else (Option.bind (d18 x0 (x2.1.1, ())) fun (x4 : ((((List Int) × (Int × Unit)) × Unit) × Unit)) =>
  (Option.bind (d19 x0 (x4.1.1, ())) fun (x5 : ((Int × Unit) × (((List Int) × (Int × Unit)) × Unit))) =>
  (lt (Decidable.decide (x5.1.1 > (65536 : Int))) fun (x6 : Bool) =>
  (if (x6 = Bool.true) then
  (Option.some ((([] : List IN), ((1 : Int), ())), ()))
  else (Option.bind (d18 x0 (x2.1.1, ())) fun (x7 : ((((List Int) × (Int × Unit)) × Unit) × Unit)) =>
  (Option.bind (d20 x0 (x7.1.1, ((65536 : Int), ((), ())))) fun (x8 : (((List IN) × Unit) × (((List Int) × (Int × Unit)) × Unit))) =>
  (Option.bind (d22 x0 (x8.2.1, ())) fun (x9 : ((Int × Unit) × Unit)) =>
  (lt (x9.1.1 != (0 : Int)) fun (x10 : Bool) =>
  (if (x10 = Bool.true) then
  (Option.some ((([] : List IN), ((20 : Int), ())), ()))
  else (Option.some ((x8.1.1, ((0 : Int), ())), ()))))))))))))))))
theorem k7 : c_fn Tryz.prog [(17, ⟨s17, d17⟩), (18, ⟨s18, d18⟩), (19, ⟨s19, d19⟩), (20, ⟨s20, d20⟩), (21, ⟨s21, d21⟩), (22, ⟨s22, d22⟩)] Tryz.f7 s7 h7 = some d7 := by kernel_rfl
/-- bulkhead/bulkheadlaw21.ScriptThere -/
def s3 : Sig := ⟨[((.sl 25 (.pair (.int .i64) (.pair (.int .i64) (.pair (.int .i64) (.pair (.sl 2 (.int .i64)) .unit))))), .val)], [(.bool, .val)]⟩
 def h3 : Hint := (.seq .leaf
   (.seq .leaf
   (.seq (.seq .leaf
   (.block ⟨[], [((0, 0), (.val (.sl 25 (.pair (.int .i64) (.pair (.int .i64) (.pair (.int .i64) (.pair (.sl 2 (.int .i64)) .unit))))))), ((3, 0), (.val (.int .i64)))]⟩ true
     (.loop ⟨[], [((4, 0), (.val (.int .i64))), ((0, 0), (.val (.sl 25 (.pair (.int .i64) (.pair (.int .i64) (.pair (.int .i64) (.pair (.sl 2 (.int .i64)) .unit))))))), ((3, 0), (.val (.int .i64)))]⟩
       (.seq (.seq .leaf
       (.cond none
         .leaf
         .leaf))
       (.seq (.block ⟨[], [((0, 0), (.val (.sl 25 (.pair (.int .i64) (.pair (.int .i64) (.pair (.int .i64) (.pair (.sl 2 (.int .i64)) .unit))))))), ((3, 0), (.val (.int .i64))), ((4, 0), (.val (.int .i64)))]⟩ true
         .leaf)
       .leaf)))))
   (.seq .leaf
   (.seq (.seq .leaf
   (.cond none
     (.seq .leaf
     .leaf)
     .leaf))
   (.seq .leaf
   (.seq .leaf
   .leaf)))))))
def d3_K1 (x0 : Nat) : ((Unit × ((List IN) × (Int × Unit))) → (Option ((Bool × Unit) × Unit))) :=
  (fun (x2 : (Unit × ((List IN) × (Int × Unit)))) => (Option.bind (d5 x0 (x2.2.1, ())) fun (x3 : (((List IN) × Unit) × Unit)) =>
  (Option.bind (d4 x0 (x3.1.1, ())) fun (x4 : (((List Int) × (Int × Unit)) × Unit)) =>
  (lt (((List.length x2.2.1) : Nat) : Int) fun (x5 : Int) =>
  (lt (Decidable.decide (x5 > (65536 : Int))) fun (x6 : Bool) =>
  (lt (Decidable.decide (x2.2.2.1 > (4194304 : Int))) fun (x7 : Bool) =>
  (lt (if (x6 = Bool.true) then
  Bool.true
  else x7) fun (x8 : Bool) =>
  (if (x8 = Bool.true) then
  (Option.bind (d6 x0 ()) fun (x9 : ((Bool × Unit) × Unit)) =>
  (lt (x4.1.2.1 == (1 : Int)) fun (x10 : Bool) =>
  (lt (if (x9.1.1 = Bool.true) then
  x10
  else Bool.false) fun (x11 : Bool) =>
  (lt (((List.length x4.1.1) : Nat) : Int) fun (x12 : Int) =>
  (lt (x12 == (0 : Int)) fun (x13 : Bool) =>
  (Option.some (((if (x11 = Bool.true) then
  x13
  else Bool.false), ()), ())))))))
  else (if ((Go.Lift.appFits (List.length ([] : List Int)) (List.length x4.1.1) (1 : Nat)) = Bool.true) then
  (lt (([] : List Int) ++ x4.1.1) fun (x9 : (List Int)) =>
  (Option.bind (d7 x0 (x9, ())) fun (x10 : (((List IN) × (Int × Unit)) × Unit)) =>
  (Option.bind (d6 x0 ()) fun (x11 : ((Bool × Unit) × Unit)) =>
  (lt (x4.1.2.1 == (0 : Int)) fun (x12 : Bool) =>
  (lt (if (x11.1.1 = Bool.true) then
  x12
  else Bool.false) fun (x13 : Bool) =>
  (lt (x10.1.2.1 == (0 : Int)) fun (x14 : Bool) =>
  (lt (if (x13 = Bool.true) then
  x14
  else Bool.false) fun (x15 : Bool) =>
  (lt (((List.length x4.1.1) : Nat) : Int) fun (x16 : Int) =>
  (lt (Go.IntKind.wrap Go.IntKind.i64 (x2.2.2.1 + (12 : Int))) fun (x17 : Int) =>
  (lt (x16 == x17) fun (x18 : Bool) =>
  (lt (if (x15 = Bool.true) then
  x18
  else Bool.false) fun (x19 : Bool) =>
  (Option.bind (if (((x19 == Bool.true) && Bool.true) = Bool.true) then
  (d8 x0 (x10.1.1, (x2.2.1, ())))
  else (Option.some ((Bool.false, ()), ()))) fun (x20 : ((Bool × Unit) × Unit)) =>
  (Option.some (((if (x19 = Bool.true) then
  x20.1.1
  else Bool.false), ()), ()))))))))))))))
  else (Option.none))))))))))
def d3_K2 (x3 : ((Unit × (Int × ((List IN) × (Int × Unit)))) → (Option ((Bool × Unit) × Unit)))) : ((Unit × ((List IN) × (Int × (Int × Unit)))) → (Option ((Bool × Unit) × Unit))) :=
  (fun (x7 : (Unit × ((List IN) × (Int × (Int × Unit))))) => (x3 ((), ((Go.IntKind.wrap Go.IntKind.i64 (x7.2.2.2.1 + (1 : Int))), (x7.2.1, (x7.2.2.1, ()))))))
def d3_L3 (x2 : ((Unit × ((List IN) × (Int × Unit))) → (Option ((Bool × Unit) × Unit)))) : (((Unit × (Int × ((List IN) × (Int × Unit)))) → (Option ((Bool × Unit) × Unit))) → ((Unit × (Int × ((List IN) × (Int × Unit)))) → (Option ((Bool × Unit) × Unit)))) :=
  (fun (x3 : ((Unit × (Int × ((List IN) × (Int × Unit)))) → (Option ((Bool × Unit) × Unit)))) => (fun (x4 : (Unit × (Int × ((List IN) × (Int × Unit))))) => (lt (((List.length x4.2.2.1) : Nat) : Int) fun (x5 : Int) =>
  (lt (Decidable.decide (x4.2.1 < x5)) fun (x6 : Bool) =>
  (if (x6 = Bool.true) then
  (shr (d3_K2 x3) (fun (x7 : ((Unit × ((List IN) × (Int × (Int × Unit)))) → (Option ((Bool × Unit) × Unit)))) => (lt (Go.IntKind.wrap Go.IntKind.i64 (x4.2.2.2.1 + (28 : Int))) fun (x8 : Int) =>
  (if (((Decidable.decide ((0 : Int) ≤ x4.2.1)) && (Decidable.decide (x4.2.1 < (((List.length x4.2.2.1) : Nat) : Int)))) = Bool.true) then
  (x7 ((), (x4.2.2.1, ((Go.IntKind.wrap Go.IntKind.i64 (x8 + (Go.IntKind.wrap Go.IntKind.i64 ((8 : Int) * (((List.length (List.getD x4.2.2.1 (Int.toNat x4.2.1) ((0 : Int), ((0 : Int), ((0 : Int), (([] : List Int), ()))))).2.2.2.1) : Nat) : Int))))), (x4.2.1, ())))))
  else (Option.none)))))
  else (x2 ((), (x4.2.2.1, (x4.2.2.2.1, ())))))))))
def d3 : (Nat → (((List IN) × Unit) → (Option ((Bool × Unit) × Unit)))) :=
  (fun (x0 : Nat) => (fun (x1 : ((List IN) × Unit)) => (shr (d3_K1 x0) (fun (x2 : ((Unit × ((List IN) × (Int × Unit))) → (Option ((Bool × Unit) × Unit)))) => (loopN (d3_L3 x2) x0 ((), ((0 : Int), (x1.1, ((4 : Int), ())))))))))
theorem k3 : c_fn Tryz.prog [(5, ⟨s5, d5⟩), (4, ⟨s4, d4⟩), (6, ⟨s6, d6⟩), (7, ⟨s7, d7⟩), (8, ⟨s8, d8⟩)] Tryz.f3 s3 h3 = some d3 := by kernel_rfl
end Go.Proofs.YticemfakkgebhaaGreatDoor.L
