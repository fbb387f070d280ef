import Derived.Test.YtjnnmgjpnbfhlaaGreatDoorLiftC
import Derived.Test.YtjnnmgjpnbfhlaaGreatDoorProg
import Derived.KernelRfl
import Derived.Lib.SlicesCompact
namespace Go.Proofs.YtjnnmgjpnbfhlaaGreatDoor.L
open Go Go.Lift Go.Proofs
set_option maxRecDepth 100000
set_option linter.unusedVariables false
abbrev IS : Type := (Int × (Int × (Int × (Int × (Int × Unit)))))
abbrev SV : Type := (Int × (Int × (Int × (Int × Unit))))
abbrev I2 : Type := (Int × (Int × Unit))
abbrev PC : Type := (Int × (Int × (Int × (Int × (Int × (Bool × Unit))))))
abbrev PT : Type := (SV × (Int × (Int × ((List Int) × ((List IS) × ((List PC) × (Int × ((List Int) × ((List I2) × ((List Bool) × ((List I2) × Unit)))))))))))
abbrev PO : Type := (Int × (Int × (Bool × (Int × (Int × (Int × Unit))))))
abbrev CH : Type := (Int × (Int × ((List Int) × I2)))
abbrev IM : Type := ((List PT) × ((List PO) × ((List CH) × Unit)))
def ks0 : List (TypeId × Kt) := [(57, .ifc 66 (.ptr 70 (.pair (.int .i64) (.pair (.int .i64) .unit)))), (118, .fnv)]
abbrev kIS : Kt := (.pair (.int .u8) (.pair (.int .u8) (.pair (.int .u8) (.pair (.int .u8) (.pair (.int .i32) .unit)))))
abbrev kSV : Kt := (.pair (.int .i64) (.pair (.int .i64) (.pair (.int .i64) (.pair (.int .i64) .unit))))
abbrev kI2 : Kt := (.pair (.int .i64) (.pair (.int .i64) .unit))
abbrev kPC : Kt := (.pair (.int .i64) (.pair (.int .i64) (.pair (.int .i64) (.pair (.int .i64) (.pair (.int .i64) (.pair .bool .unit))))))
abbrev kPT : Kt := (.pair kSV (.pair (.int .i64) (.pair (.int .i64) (.pair (.sl 2 (.int .i64)) (.pair (.sl 182 kIS) (.pair (.sl 126 kPC) (.pair (.int .i64) (.pair (.arr 8 (.int .i64)) (.pair (.sl 131 kI2) (.pair (.sl 4 .bool) (.pair (.sl 135 kI2) .unit)))))))))))
abbrev kPO : Kt := (.pair (.int .i64) (.pair (.int .i64) (.pair .bool (.pair (.int .i64) (.pair (.int .i64) (.pair (.int .i64) .unit))))))
abbrev kCH : Kt := (.pair (.int .i64) (.pair (.int .i64) (.pair (.sl 3 (.int .i64)) kI2)))
abbrev kIM : Kt := (.pair (.sl 82 kPT) (.pair (.sl 42 kPO) (.pair (.sl 39 kCH) .unit)))
/-- The number of the first that is so; 0: none. -/
def findN (p : CH → Bool) : Nat → List CH → Int
  | _, [] => 0
  | n, c :: cs => if p c then ((n + 1 : Nat) : Int) else findN p (n + 1) cs
/-- The numbers of all that are so. -/
def listN (p : CH → Bool) : Nat → List CH → List Int
  | _, [] => []
  | n, c :: cs => (if p c then [((n + 1 : Nat) : Int)] else []) ++ listN p (n + 1) cs
/-- The partition of a port; 0: it is not there. -/
def partN (x : IM) (t : Int) : Int := if t < 1 ∨ t > (x.2.1.length : Int) then 0 else (x.2.1.getD (t - 1).toNat ((0 : Int), ((0 : Int), (false, ((0 : Int), ((0 : Int), ((0 : Int), ()))))))).1
def inlB (x : IM) (of : Int) (c : CH) : Bool := decide (of > 0) && c.2.2.1.any (fun t => partN x t == of)
def outB (x : IM) (of : Int) (c : CH) : Bool := decide (of > 0) && (partN x c.2.1 == of)
def sane (x : IM) : Prop := x.2.2.1.length ≤ 8796093022208 ∧ x.2.1.length < 4611686018427387904 ∧ ∀ c, c ∈ x.2.2.1 → c.2.2.1.length < 4611686018427387904
instance (x : IM) : Decidable (sane x) := by unfold sane; infer_instance

/-- bulkhead/channel.part -/
def s20 : Sig := ⟨[((.pair (.sl 82 kPT) (.pair (.sl 42 (.pair (.int .i64) (.pair (.int .i64) (.pair .bool (.pair (.int .i64) kI2))))) (.pair (.sl 39 kCH) .unit))), .val), ((.int .i64), .val)], [((.int .i64), .val)]⟩
 def h20 : Hint := (.seq .leaf
   (.seq (.seq .leaf
   (.cond none
     (.seq .leaf
     .leaf)
     .leaf))
   (.seq .leaf
   .leaf)))
def d20 : (Nat → ((((List PT) × ((List (Int × (Int × (Bool × (Int × I2))))) × ((List CH) × Unit))) × (Int × Unit)) → (Option ((Int × Unit) × Unit)))) :=
  (fun (x0 : Nat) => (fun (x1 : (((List PT) × ((List (Int × (Int × (Bool × (Int × I2))))) × ((List CH) × Unit))) × (Int × Unit))) => (lt (Decidable.decide (x1.2.1 < (1 : Int))) fun (x2 : Bool) =>
  (lt (((List.length x1.1.2.1) : Nat) : Int) fun (x3 : Int) =>
  (lt (Decidable.decide (x1.2.1 > x3)) fun (x4 : Bool) =>
  (lt (if (x2 = Bool.true) then
  Bool.true
  else x4) fun (x5 : Bool) =>
  (if (x5 = Bool.true) then
  (Option.some (((0 : Int), ()), ()))
  else (lt (Go.IntKind.wrap Go.IntKind.i64 (x1.2.1 - (1 : Int))) fun (x6 : Int) =>
  (if (((Decidable.decide ((0 : Int) ≤ x6)) && (Decidable.decide (x6 < (((List.length x1.1.2.1) : Nat) : Int)))) = Bool.true) then
  (Option.some (((List.getD x1.1.2.1 (Int.toNat x6) ((0 : Int), ((0 : Int), (Bool.false, ((0 : Int), ((0 : Int), ((0 : Int), ()))))))).1, ()), ()))
  else (Option.none))))))))))
theorem k20 : c_fn Tryz.prog ⟨[], ks0⟩ Tryz.f20 s20 h20 = some d20 := by kernel_rfl
/-- slices.Sort[[]int,int] -/
def s25 : Sig := ⟨[((.sl 3 (.int .i64)), (.mut (.ow .sh)))], []⟩
def d25 (_ : Nat) (x : List Int × Unit) : Option (Unit × List Int × Unit) := if x.1.length < 4611686018427387904 then some ((), (x.1.mergeSort fun x y => decide (x ≤ y), ())) else none
/-- slices.Compact[[]int,int] -/
def s26 : Sig := ⟨[((.sl 3 (.int .i64)), (.tak (.ow .sh)))], [((.sl 3 (.int .i64)), (.own (.ow .sh)))]⟩
def d26 (_ : Nat) (x : List Int × Unit) : Option ((List Int × Unit) × Unit) := some ((Lib.compact x.1, ()), ())
/-- bulkhead/channel.Parts -/
def s9 : Sig := ⟨[((.pair (.sl 82 kPT) (.pair (.sl 42 (.pair (.int .i64) (.pair (.int .i64) (.pair .bool (.pair (.int .i64) kI2))))) (.pair (.sl 39 kCH) .unit))), .val), ((.int .i64), .val)], [((.int .i64), .val), ((.sl 3 (.int .i64)), (.own (.ow .sh))), ((.int .i64), .val)]⟩
 def h9 : Hint := (.seq .leaf
   (.seq (.seq .leaf
   (.cond none
     (.seq .leaf
     .leaf)
     .leaf))
   (.seq .leaf
   (.seq .leaf
   (.seq (.seq .leaf
   (.block ⟨[((.ptr 39 kCH), (.ow .sh), (7, 0)), ((.ptr 26 (.pair (.sl 82 kPT) (.pair (.sl 42 (.pair (.int .i64) (.pair (.int .i64) (.pair .bool (.pair (.int .i64) kI2))))) (.pair (.sl 39 kCH) .unit)))), (.ow .sh), (2, 0)), ((.sl 3 (.int .i64)), (.ow .sh), (8, 0))], [((7, 0), (.own 0)), ((2, 0), (.own 1)), ((8, 0), (.own 2))]⟩ true
     (.loop ⟨[((.ptr 26 (.pair (.sl 82 kPT) (.pair (.sl 42 (.pair (.int .i64) (.pair (.int .i64) (.pair .bool (.pair (.int .i64) kI2))))) (.pair (.sl 39 kCH) .unit)))), (.ow .sh), (2, 0)), ((.sl 3 (.int .i64)), (.ow .sh), (8, 0)), ((.ptr 39 kCH), (.ow .sh), (7, 0))], [((29, 0), (.val (.int .i64))), ((2, 0), (.own 0)), ((8, 0), (.own 1)), ((27, 0), (.val (.sl 3 (.int .i64)))), ((7, 0), (.own 2)), ((28, 0), (.val (.int .i64)))]⟩
       (.seq .leaf
       (.seq (.cond none
         .leaf
         .leaf)
       (.seq (.block ⟨[((.ptr 26 (.pair (.sl 82 kPT) (.pair (.sl 42 (.pair (.int .i64) (.pair (.int .i64) (.pair .bool (.pair (.int .i64) kI2))))) (.pair (.sl 39 kCH) .unit)))), (.ow .sh), (2, 0)), ((.sl 3 (.int .i64)), (.ow .sh), (8, 0)), ((.ptr 39 kCH), (.ow .sh), (7, 0))], [((2, 0), (.own 0)), ((8, 0), (.own 1)), ((27, 0), (.val (.sl 3 (.int .i64)))), ((7, 0), (.own 2)), ((28, 0), (.val (.int .i64))), ((29, 0), (.val (.int .i64)))]⟩ true
         (.seq .leaf
         .leaf))
       .leaf))))))
   (.seq (.seq .leaf
   (.cond (some ⟨[((.sl 3 (.int .i64)), (.ow .sh), (8, 0)), ((.ptr 39 kCH), (.ow .sh), (7, 0)), ((.ptr 26 (.pair (.sl 82 kPT) (.pair (.sl 42 (.pair (.int .i64) (.pair (.int .i64) (.pair .bool (.pair (.int .i64) kI2))))) (.pair (.sl 39 kCH) .unit)))), (.ow .sh), (2, 0))], [((8, 0), (.own 0)), ((7, 0), (.own 1)), ((2, 0), (.own 2))]⟩)
     .leaf
     .leaf))
   (.seq .leaf
   (.seq .leaf
   .leaf))))))))
def d9_K1 (x0 : Nat) : ((((List Int) × (CH × (((List PT) × ((List (Int × (Int × (Bool × (Int × I2))))) × ((List CH) × Unit))) × Unit))) × Unit) → (Option ((Int × ((List Int) × (Int × Unit))) × Unit))) :=
  (fun (x11 : (((List Int) × (CH × (((List PT) × ((List (Int × (Int × (Bool × (Int × I2))))) × ((List CH) × Unit))) × Unit))) × Unit)) => (Option.bind (d25 x0 (x11.1.1, ())) fun (x12 : (Unit × ((List Int) × Unit))) =>
  (Option.bind (d20 x0 (x11.1.2.2.1, (x11.1.2.1.2.1, ()))) fun (x13 : ((Int × Unit) × Unit)) =>
  (Option.bind (d26 x0 (x12.2.1, ())) fun (x14 : (((List Int) × Unit) × Unit)) =>
  (Option.some ((x13.1.1, (x14.1.1, ((0 : Int), ()))), ()))))))
def d9_K2 (x0 : Nat) : (((CH × (((List PT) × ((List (Int × (Int × (Bool × (Int × I2))))) × ((List CH) × Unit))) × ((List Int) × Unit))) × Unit) → (Option ((Int × ((List Int) × (Int × Unit))) × Unit))) :=
  (fun (x8 : ((CH × (((List PT) × ((List (Int × (Int × (Bool × (Int × I2))))) × ((List CH) × Unit))) × ((List Int) × Unit))) × Unit)) => (lt (((List.length x8.1.2.2.1) : Nat) : Int) fun (x9 : Int) =>
  (lt (x9 == (0 : Int)) fun (x10 : Bool) =>
  (shr (d9_K1 x0) (fun (x11 : ((((List Int) × (CH × (((List PT) × ((List (Int × (Int × (Bool × (Int × I2))))) × ((List CH) × Unit))) × Unit))) × Unit) → (Option ((Int × ((List Int) × (Int × Unit))) × Unit)))) => (if (x10 = Bool.true) then
  (x11 ((((0 : Int) :: ([] : List Int)), (x8.1.1, (x8.1.2.1, ()))), ()))
  else (x11 ((x8.1.2.2.1, (x8.1.1, (x8.1.2.1, ()))), ()))))))))
def d9_K3 (x9 : (((((List PT) × ((List (Int × (Int × (Bool × (Int × I2))))) × ((List CH) × Unit))) × ((List Int) × (CH × Unit))) × (Int × ((List Int) × (Int × Unit)))) → (Option ((Int × ((List Int) × (Int × Unit))) × Unit)))) : (((((List PT) × ((List (Int × (Int × (Bool × (Int × I2))))) × ((List CH) × Unit))) × ((List Int) × (CH × Unit))) × ((List Int) × I2)) → (Option ((Int × ((List Int) × (Int × Unit))) × Unit))) :=
  (fun (x12 : ((((List PT) × ((List (Int × (Int × (Bool × (Int × I2))))) × ((List CH) × Unit))) × ((List Int) × (CH × Unit))) × ((List Int) × I2))) => (x9 ((x12.1.1, (x12.1.2.1, (x12.1.2.2.1, ()))), ((Go.IntKind.wrap Go.IntKind.i64 (x12.2.2.2.1 + (1 : Int))), (x12.2.1, (x12.2.2.1, ()))))))
def d9_L4 (x0 : Nat) (x8 : (((CH × (((List PT) × ((List (Int × (Int × (Bool × (Int × I2))))) × ((List CH) × Unit))) × ((List Int) × Unit))) × Unit) → (Option ((Int × ((List Int) × (Int × Unit))) × Unit)))) : ((((((List PT) × ((List (Int × (Int × (Bool × (Int × I2))))) × ((List CH) × Unit))) × ((List Int) × (CH × Unit))) × (Int × ((List Int) × (Int × Unit)))) → (Option ((Int × ((List Int) × (Int × Unit))) × Unit))) → (((((List PT) × ((List (Int × (Int × (Bool × (Int × I2))))) × ((List CH) × Unit))) × ((List Int) × (CH × Unit))) × (Int × ((List Int) × (Int × Unit)))) → (Option ((Int × ((List Int) × (Int × Unit))) × Unit)))) :=
  (fun (x9 : (((((List PT) × ((List (Int × (Int × (Bool × (Int × I2))))) × ((List CH) × Unit))) × ((List Int) × (CH × Unit))) × (Int × ((List Int) × (Int × Unit)))) → (Option ((Int × ((List Int) × (Int × Unit))) × Unit)))) => (fun (x10 : ((((List PT) × ((List (Int × (Int × (Bool × (Int × I2))))) × ((List CH) × Unit))) × ((List Int) × (CH × Unit))) × (Int × ((List Int) × (Int × Unit))))) => (lt (Decidable.decide (x10.2.1 < x10.2.2.2.1)) fun (x11 : Bool) =>
  (if (x11 = Bool.true) then
  (shr (d9_K3 x9) (fun (x12 : (((((List PT) × ((List (Int × (Int × (Bool × (Int × I2))))) × ((List CH) × Unit))) × ((List Int) × (CH × Unit))) × ((List Int) × I2)) → (Option ((Int × ((List Int) × (Int × Unit))) × Unit)))) => (if (((Decidable.decide ((0 : Int) ≤ x10.2.1)) && (Decidable.decide (x10.2.1 < (((List.length x10.2.2.1) : Nat) : Int)))) = Bool.true) then
  (lt (List.getD x10.2.2.1 (Int.toNat x10.2.1) (0 : Int)) fun (x13 : Int) =>
  (Option.bind (d20 x0 (x10.1.1, (x13, ()))) fun (x14 : ((Int × Unit) × Unit)) =>
  (lt (x14.1.1 :: ([] : List Int)) fun (x15 : (List Int)) =>
  (if ((Go.Lift.appFits (List.length x10.1.2.1) (List.length x15) (8 : Nat)) = Bool.true) then
  (x12 ((x10.1.1, ((x10.1.2.1 ++ x15), (x10.1.2.2.1, ()))), (x10.2.2.1, (x10.2.2.2.1, (x10.2.1, ())))))
  else (Option.none)))))
  else (Option.none))))
  else (x8 ((x10.1.2.2.1, (x10.1.1, (x10.1.2.1, ()))), ()))))))
def d9 : (Nat → ((((List PT) × ((List (Int × (Int × (Bool × (Int × I2))))) × ((List CH) × Unit))) × (Int × Unit)) → (Option ((Int × ((List Int) × (Int × Unit))) × Unit)))) :=
  (fun (x0 : Nat) => (fun (x1 : (((List PT) × ((List (Int × (Int × (Bool × (Int × I2))))) × ((List CH) × Unit))) × (Int × Unit))) => (lt (Decidable.decide (x1.2.1 < (1 : Int))) fun (x2 : Bool) =>
  (lt (((List.length x1.1.2.2.1) : Nat) : Int) fun (x3 : Int) =>
  (lt (Decidable.decide (x1.2.1 > x3)) fun (x4 : Bool) =>
  (lt (if (x2 = Bool.true) then
  Bool.true
  else x4) fun (x5 : Bool) =>
  (if (x5 = Bool.true) then
  (Option.some (((0 : Int), (([] : List Int), ((2 : Int), ()))), ()))
  else (lt (Go.IntKind.wrap Go.IntKind.i64 (x1.2.1 - (1 : Int))) fun (x6 : Int) =>
  (if (((Decidable.decide ((0 : Int) ≤ x6)) && (Decidable.decide (x6 < (((List.length x1.1.2.2.1) : Nat) : Int)))) = Bool.true) then
  (lt (List.getD x1.1.2.2.1 (Int.toNat x6) ((0 : Int), ((0 : Int), (([] : List Int), ((0 : Int), ((0 : Int), ())))))) fun (x7 : CH) =>
  (shr (d9_K2 x0) (fun (x8 : (((CH × (((List PT) × ((List (Int × (Int × (Bool × (Int × I2))))) × ((List CH) × Unit))) × ((List Int) × Unit))) × Unit) → (Option ((Int × ((List Int) × (Int × Unit))) × Unit)))) => (loopN (d9_L4 x0 x8) x0 ((x1.1, (([] : List Int), (x7, ()))), ((0 : Int), (x7.2.2.1, ((((List.length x7.2.2.1) : Nat) : Int), ()))))))))
  else (Option.none))))))))))
theorem k9 : c_fn Tryz.prog ⟨[(20, ⟨s20, d20⟩), (25, ⟨s25, d25⟩), (26, ⟨s26, d26⟩)], ks0⟩ Tryz.f9 s9 h9 = some d9 := by kernel_rfl
/-- bulkhead/channel.takes -/
def s33 : Sig := ⟨[(kCH, .val)], [(.bool, .val)]⟩
 def h33 : Hint := (.seq .leaf
   (.seq .leaf
   .leaf))
def d33 : (Nat → ((CH × Unit) → (Option ((Bool × Unit) × Unit)))) :=
  (fun (x0 : Nat) => (fun (x1 : (CH × Unit)) => (lt (x1.1.1 == (1 : Int)) fun (x2 : Bool) =>
  (lt (x1.1.2.1 != (0 : Int)) fun (x3 : Bool) =>
  (lt (if (x2 = Bool.true) then
  x3
  else Bool.false) fun (x4 : Bool) =>
  (lt (Decidable.decide (x1.1.2.2.2.2.1 > (0 : Int))) fun (x5 : Bool) =>
  (lt (if (x4 = Bool.true) then
  x5
  else Bool.false) fun (x6 : Bool) =>
  (lt (Decidable.decide (x1.1.2.2.2.1 ≥ (0 : Int))) fun (x7 : Bool) =>
  (Option.some (((if (x6 = Bool.true) then
  x7
  else Bool.false), ()), ()))))))))))
theorem k33 : c_fn Tryz.prog ⟨[], ks0⟩ Tryz.f33 s33 h33 = some d33 := by kernel_rfl
/-- bulkhead/num.NextAt -/
def s34 : Sig := ⟨[((.int .i64), .val), ((.int .i64), .val), ((.int .i64), .val)], [((.int .i64), .val), (.bool, .val)]⟩
 def h34 : Hint := (.seq .leaf
   (.seq (.seq .leaf
   (.cond none
     (.seq .leaf
     .leaf)
     .leaf))
   (.seq (.seq .leaf
   (.cond none
     (.seq .leaf
     .leaf)
     .leaf))
   (.seq .leaf
   (.seq (.seq .leaf
   (.cond none
     (.seq .leaf
     .leaf)
     .leaf))
   (.seq .leaf
   (.seq .leaf
   .leaf)))))))
def d34 : (Nat → ((Int × I2) → (Option ((Int × (Bool × Unit)) × Unit)))) :=
  (fun (x0 : Nat) => (fun (x1 : (Int × I2)) => (lt (Decidable.decide (x1.2.1 < (1 : Int))) fun (x2 : Bool) =>
  (lt (Decidable.decide (x1.1 < (0 : Int))) fun (x3 : Bool) =>
  (lt (if (x2 = Bool.true) then
  Bool.true
  else x3) fun (x4 : Bool) =>
  (if (x4 = Bool.true) then
  (Option.some (((0 : Int), (Bool.false, ())), ()))
  else (lt (Decidable.decide (x1.2.2.1 ≤ x1.1)) fun (x5 : Bool) =>
  (if (x5 = Bool.true) then
  (Option.some ((x1.1, (Bool.true, ())), ()))
  else (lt (Go.IntKind.wrap Go.IntKind.i64 (x1.2.2.1 - x1.1)) fun (x6 : Int) =>
  (if ((Bool.not (x1.2.1 == (0 : Int))) = Bool.true) then
  (lt (Int.tmod x6 x1.2.1) fun (x7 : Int) =>
  (lt (x7 == (0 : Int)) fun (x8 : Bool) =>
  (if (x8 = Bool.true) then
  (Option.some ((x1.2.2.1, (Bool.true, ())), ()))
  else (lt (Go.IntKind.wrap Go.IntKind.i64 (x1.2.2.1 - x7)) fun (x9 : Int) =>
  (lt (Go.IntKind.wrap Go.IntKind.i64 (x9 + x1.2.1)) fun (x10 : Int) =>
  (lt (if ((0 : Int) > x10) then
  (0 : Int)
  else x10) fun (x11 : Int) =>
  (Option.some ((x11, ((Decidable.decide (x10 > x1.2.2.1)), ())), ()))))))))
  else (Option.none)))))))))))
theorem k34 : c_fn Tryz.prog ⟨[], ks0⟩ Tryz.f34 s34 h34 = some d34 := by kernel_rfl
/-- bulkhead/channel.Next -/
def s15 : Sig := ⟨[(kCH, .val), ((.int .i64), .val)], [((.int .i64), .val)]⟩
 def h15 : Hint := (.seq .leaf
   (.seq (.seq .leaf
   (.cond none
     (.seq .leaf
     .leaf)
     .leaf))
   (.seq .leaf
   (.seq (.seq .leaf
   (.cond none
     (.seq .leaf
     .leaf)
     .leaf))
   (.seq .leaf
   .leaf)))))
def d15 : (Nat → ((CH × (Int × Unit)) → (Option ((Int × Unit) × Unit)))) :=
  (fun (x0 : Nat) => (fun (x1 : (CH × (Int × Unit))) => (Option.bind (d33 x0 (x1.1, ())) fun (x2 : ((Bool × Unit) × Unit)) =>
  (lt (Bool.not x2.1.1) fun (x3 : Bool) =>
  (if (x3 = Bool.true) then
  (Option.some (((Neg.neg (1 : Int)), ()), ()))
  else (lt (if ((0 : Int) > x1.2.1) then
  (0 : Int)
  else x1.2.1) fun (x4 : Int) =>
  (Option.bind (d34 x0 (x1.1.2.2.2.1, (x1.1.2.2.2.2.1, (x4, ())))) fun (x5 : ((Int × (Bool × Unit)) × Unit)) =>
  (lt (Bool.not x5.1.2.1) fun (x6 : Bool) =>
  (lt (Decidable.decide (x5.1.1 ≥ (1099511627776 : Int))) fun (x7 : Bool) =>
  (lt (if (x6 = Bool.true) then
  Bool.true
  else x7) fun (x8 : Bool) =>
  (if (x8 = Bool.true) then
  (Option.some (((Neg.neg (1 : Int)), ()), ()))
  else (Option.some ((x5.1.1, ()), ())))))))))))))
theorem k15 : c_fn Tryz.prog ⟨[(33, ⟨s33, d33⟩), (34, ⟨s34, d34⟩)], ks0⟩ Tryz.f15 s15 h15 = some d15 := by kernel_rfl
/-- bulkhead/channel.Due -/
def s14 : Sig := ⟨[(kCH, .val), ((.int .i64), .val)], [(.bool, .val)]⟩
 def h14 : Hint := (.seq .leaf
   (.seq .leaf
   .leaf))
def d14 : (Nat → ((CH × (Int × Unit)) → (Option ((Bool × Unit) × Unit)))) :=
  (fun (x0 : Nat) => (fun (x1 : (CH × (Int × Unit))) => (lt (Decidable.decide (x1.2.1 ≥ (0 : Int))) fun (x2 : Bool) =>
  (Option.bind (if (((x2 == Bool.true) && Bool.true) = Bool.true) then
  (d15 x0 (x1.1, (x1.2.1, ())))
  else (Option.some (((0 : Int), ()), ()))) fun (x3 : ((Int × Unit) × Unit)) =>
  (lt (x3.1.1 == x1.2.1) fun (x4 : Bool) =>
  (Option.some (((if (x2 = Bool.true) then
  x4
  else Bool.false), ()), ())))))))
theorem k14 : c_fn Tryz.prog ⟨[(15, ⟨s15, d15⟩)], ks0⟩ Tryz.f14 s14 h14 = some d14 := by kernel_rfl
/-- bulkhead/bulkheadlaw18.sameInts -/
def s16 : Sig := ⟨[((.sl 3 (.int .i64)), .val), ((.sl 3 (.int .i64)), .val)], [(.bool, .val)]⟩
 def h16 : Hint := (.seq .leaf
   (.seq (.seq .leaf
   (.cond none
     (.seq .leaf
     .leaf)
     .leaf))
   (.seq (.seq .leaf
   (.block ⟨[], []⟩ true
     (.loop ⟨[], [((5, 0), (.val (.int .i64))), ((1, 0), (.val (.sl 3 (.int .i64)))), ((0, 0), (.val (.sl 3 (.int .i64))))]⟩
       (.seq (.seq .leaf
       (.cond none
         .leaf
         .leaf))
       (.seq (.block ⟨[], [((1, 0), (.val (.sl 3 (.int .i64)))), ((0, 0), (.val (.sl 3 (.int .i64)))), ((5, 0), (.val (.int .i64)))]⟩ true
         (.seq .leaf
         (.cond none
           (.seq .leaf
           .leaf)
           .leaf)))
       .leaf)))))
   (.seq .leaf
   .leaf))))
def d16_K1 (x6 : ((Unit × (Int × ((List Int) × ((List Int) × Unit)))) → (Option ((Bool × Unit) × Unit)))) : ((Unit × ((List Int) × ((List Int) × (Int × Unit)))) → (Option ((Bool × Unit) × Unit))) :=
  (fun (x10 : (Unit × ((List Int) × ((List Int) × (Int × Unit))))) => (x6 ((), ((Go.IntKind.wrap Go.IntKind.i64 (x10.2.2.2.1 + (1 : Int))), (x10.2.1, (x10.2.2.1, ()))))))
def d16_L2 (x5 : ((Unit × Unit) → (Option ((Bool × Unit) × Unit)))) : (((Unit × (Int × ((List Int) × ((List Int) × Unit)))) → (Option ((Bool × Unit) × Unit))) → ((Unit × (Int × ((List Int) × ((List Int) × Unit)))) → (Option ((Bool × Unit) × Unit)))) :=
  (fun (x6 : ((Unit × (Int × ((List Int) × ((List Int) × Unit)))) → (Option ((Bool × Unit) × Unit)))) => (fun (x7 : (Unit × (Int × ((List Int) × ((List Int) × Unit))))) => (lt (((List.length x7.2.2.2.1) : Nat) : Int) fun (x8 : Int) =>
  (lt (Decidable.decide (x7.2.1 < x8)) fun (x9 : Bool) =>
  (if (x9 = Bool.true) then
  (shr (d16_K1 x6) (fun (x10 : ((Unit × ((List Int) × ((List Int) × (Int × Unit)))) → (Option ((Bool × Unit) × Unit)))) => (if (((Decidable.decide ((0 : Int) ≤ x7.2.1)) && (Decidable.decide (x7.2.1 < (((List.length x7.2.2.2.1) : Nat) : Int)))) = Bool.true) then
  (lt (List.getD x7.2.2.2.1 (Int.toNat x7.2.1) (0 : Int)) fun (x11 : Int) =>
  (if (((Decidable.decide ((0 : Int) ≤ x7.2.1)) && (Decidable.decide (x7.2.1 < (((List.length x7.2.2.1) : Nat) : Int)))) = Bool.true) then
  (lt (List.getD x7.2.2.1 (Int.toNat x7.2.1) (0 : Int)) fun (x12 : Int) =>
  (lt (x11 != x12) fun (x13 : Bool) =>
  (if (x13 = Bool.true) then
  (Option.some ((Bool.false, ()), ()))
  else (x10 ((), (x7.2.2.1, (x7.2.2.2.1, (x7.2.1, ()))))))))
  else (Option.none)))
  else (Option.none))))
  else (x5 ((), ())))))))
def d16 : (Nat → (((List Int) × ((List Int) × Unit)) → (Option ((Bool × Unit) × Unit)))) :=
  (fun (x0 : Nat) => (fun (x1 : ((List Int) × ((List Int) × Unit))) => (lt (((List.length x1.1) : Nat) : Int) fun (x2 : Int) =>
  (lt (((List.length x1.2.1) : Nat) : Int) fun (x3 : Int) =>
  (lt (x2 != x3) fun (x4 : Bool) =>
  (if (x4 = Bool.true) then
  (Option.some ((Bool.false, ()), ()))
  else (shr (fun (x5 : (Unit × Unit)) => (Option.some ((Bool.true, ()), ()))) (fun (x5 : ((Unit × Unit) → (Option ((Bool × Unit) × Unit)))) => (loopN (d16_L2 x5) x0 ((), ((0 : Int), (x1.2.1, (x1.1, ())))))))))))))
theorem k16 : c_fn Tryz.prog ⟨[], ks0⟩ Tryz.f16 s16 h16 = some d16 := by kernel_rfl
/-- bulkhead/channel.ToPort -/
def s13 : Sig := ⟨[((.pair (.sl 82 kPT) (.pair (.sl 42 (.pair (.int .i64) (.pair (.int .i64) (.pair .bool (.pair (.int .i64) kI2))))) (.pair (.sl 39 kCH) .unit))), .val), ((.int .i64), .val)], [((.int .i64), .val)]⟩
def d13 (_ : Nat) (x : IM × (Int × Unit)) : Option ((Int × Unit) × Unit) := if sane x.1 then some ((if x.2.1 < 1 then 0 else findN (fun c => c.2.2.1.any (fun t => t == x.2.1)) 0 x.1.2.2.1, ()), ()) else none
/-- bulkhead/channel.FromPort -/
def s12 : Sig := ⟨[((.pair (.sl 82 kPT) (.pair (.sl 42 (.pair (.int .i64) (.pair (.int .i64) (.pair .bool (.pair (.int .i64) kI2))))) (.pair (.sl 39 kCH) .unit))), .val), ((.int .i64), .val)], [((.int .i64), .val)]⟩
def d12 (_ : Nat) (x : IM × (Int × Unit)) : Option ((Int × Unit) × Unit) := if sane x.1 then some ((if x.2.1 < 1 then 0 else findN (fun c => c.2.1 == x.2.1) 0 x.1.2.2.1, ()), ()) else none
/-- bulkhead/bulkheadlaw18.known -/
def s4 : Sig := ⟨[], [(.bool, .val)]⟩
 def h4 : Hint := (.seq .leaf
   (.seq .leaf
   (.seq (.pre ⟨[((.ptr 39 kCH), (.ow .sh), (1, 0))], [((1, 0), (.own 0))]⟩ .leaf)
   (.seq .leaf
   (.seq .leaf
   .leaf)))))
def d4 : (Nat → (Unit → (Option ((Bool × Unit) × Unit)))) :=
  (fun (x0 : Nat) => (fun (x1 : Unit) => (lt ((2 : Int) :: ([] : List Int)) fun (x2 : (List Int)) =>
  (lt (((2 : Int), ((0 : Int), (Bool.true, ((0 : Int), ((0 : Int), ((0 : Int), ())))))) :: (((3 : Int), ((0 : Int), (Bool.false, ((0 : Int), ((0 : Int), ((0 : Int), ())))))) :: ([] : List (Int × (Int × (Bool × (Int × I2))))))) fun (x3 : (List (Int × (Int × (Bool × (Int × I2)))))) =>
  (lt (((1 : Int), ((1 : Int), (x2, ((3 : Int), ((10 : Int), ()))))) :: ([] : List CH)) fun (x4 : (List CH)) =>
  (Option.bind (d9 x0 ((([] : List PT), (x3, (x4, ()))), ((1 : Int), ()))) fun (x5 : ((Int × ((List Int) × (Int × Unit))) × Unit)) =>
  (Option.bind (d14 x0 (((1 : Int), ((1 : Int), (x2, ((3 : Int), ((10 : Int), ()))))), ((13 : Int), ()))) fun (x6 : ((Bool × Unit) × Unit)) =>
  (Option.bind (if (((x6.1.1 == Bool.true) && Bool.true) = Bool.true) then
  (d14 x0 (((1 : Int), ((1 : Int), (x2, ((3 : Int), ((10 : Int), ()))))), ((12 : Int), ())))
  else (Option.some ((Bool.false, ()), ()))) fun (x7 : ((Bool × Unit) × Unit)) =>
  (lt (Bool.not x7.1.1) fun (x8 : Bool) =>
  (lt (if (x6.1.1 = Bool.true) then
  x8
  else Bool.false) fun (x9 : Bool) =>
  (Option.bind (if (((x9 == Bool.true) && Bool.true) = Bool.true) then
  (d15 x0 (((1 : Int), ((1 : Int), (x2, ((3 : Int), ((10 : Int), ()))))), ((4 : Int), ())))
  else (Option.some (((0 : Int), ()), ()))) fun (x10 : ((Int × Unit) × Unit)) =>
  (lt (x10.1.1 == (13 : Int)) fun (x11 : Bool) =>
  (lt (if (x9 = Bool.true) then
  x11
  else Bool.false) fun (x12 : Bool) =>
  (lt (x5.1.1 == (2 : Int)) fun (x13 : Bool) =>
  (lt (if (x12 = Bool.true) then
  x13
  else Bool.false) fun (x14 : Bool) =>
  (lt ((3 : Int) :: ([] : List Int)) fun (x15 : (List Int)) =>
  (Option.bind (if (((x14 == Bool.true) && Bool.true) = Bool.true) then
  (d16 x0 (x5.1.2.1, (x15, ())))
  else (Option.some ((Bool.false, ()), ()))) fun (x16 : ((Bool × Unit) × Unit)) =>
  (lt (if (x14 = Bool.true) then
  x16.1.1
  else Bool.false) fun (x17 : Bool) =>
  (lt (x5.1.2.2.1 == (0 : Int)) fun (x18 : Bool) =>
  (lt (if (x17 = Bool.true) then
  x18
  else Bool.false) fun (x19 : Bool) =>
  (Option.bind (if (((x19 == Bool.true) && Bool.true) = Bool.true) then
  (d13 x0 ((([] : List PT), (x3, (x4, ()))), ((2 : Int), ())))
  else (Option.some (((0 : Int), ()), ()))) fun (x20 : ((Int × Unit) × Unit)) =>
  (lt (x20.1.1 == (1 : Int)) fun (x21 : Bool) =>
  (lt (if (x19 = Bool.true) then
  x21
  else Bool.false) fun (x22 : Bool) =>
  (Option.bind (if (((x22 == Bool.true) && Bool.true) = Bool.true) then
  (d12 x0 ((([] : List PT), (x3, (x4, ()))), ((1 : Int), ())))
  else (Option.some (((0 : Int), ()), ()))) fun (x23 : ((Int × Unit) × Unit)) =>
  (lt (x23.1.1 == (1 : Int)) fun (x24 : Bool) =>
  (Option.some (((if (x22 = Bool.true) then
  x24
  else Bool.false), ()), ())))))))))))))))))))))))))))
theorem k4 : c_fn Tryz.prog ⟨[(9, ⟨s9, d9⟩), (14, ⟨s14, d14⟩), (15, ⟨s15, d15⟩), (16, ⟨s16, d16⟩), (13, ⟨s13, d13⟩), (12, ⟨s12, d12⟩)], ks0⟩ Tryz.f4 s4 h4 = some d4 := by kernel_rfl
/-- bulkhead/channel.Outlet -/
def s5 : Sig := ⟨[((.pair (.sl 82 kPT) (.pair (.sl 42 (.pair (.int .i64) (.pair (.int .i64) (.pair .bool (.pair (.int .i64) kI2))))) (.pair (.sl 39 kCH) .unit))), .val), ((.int .i64), .val)], [((.sl 3 (.int .i64)), (.own (.ow .sh)))]⟩
def d5 (_ : Nat) (x : IM × (Int × Unit)) : Option ((List Int × Unit) × Unit) := if sane x.1 then some ((listN (outB x.1 x.2.1) 0 x.1.2.2.1, ()), ()) else none
/-- bulkhead/channel.Inlet -/
def s6 : Sig := ⟨[((.pair (.sl 82 kPT) (.pair (.sl 42 (.pair (.int .i64) (.pair (.int .i64) (.pair .bool (.pair (.int .i64) kI2))))) (.pair (.sl 39 kCH) .unit))), .val), ((.int .i64), .val)], [((.sl 3 (.int .i64)), (.own (.ow .sh)))]⟩
def d6 (_ : Nat) (x : IM × (Int × Unit)) : Option ((List Int × Unit) × Unit) := if sane x.1 then some ((listN (inlB x.1 x.2.1) 0 x.1.2.2.1, ()), ()) else none
/-- bulkhead/bulkheadlaw18.rising -/
def s7 : Sig := ⟨[((.sl 3 (.int .i64)), .val)], [(.bool, .val)]⟩
 def h7 : Hint := (.seq .leaf
   (.seq (.seq .leaf
   (.block ⟨[], []⟩ true
     (.loop ⟨[], [((3, 0), (.val (.int .i64))), ((0, 0), (.val (.sl 3 (.int .i64))))]⟩
       (.seq (.seq .leaf
       (.cond none
         .leaf
         .leaf))
       (.seq (.block ⟨[], [((0, 0), (.val (.sl 3 (.int .i64)))), ((3, 0), (.val (.int .i64)))]⟩ true
         (.seq .leaf
         (.cond none
           (.seq .leaf
           .leaf)
           .leaf)))
       .leaf)))))
   (.seq .leaf
   .leaf)))
def d7_K1 (x3 : ((Unit × (Int × ((List Int) × Unit))) → (Option ((Bool × Unit) × Unit)))) : ((Unit × ((List Int) × (Int × Unit))) → (Option ((Bool × Unit) × Unit))) :=
  (fun (x7 : (Unit × ((List Int) × (Int × Unit)))) => (x3 ((), ((Go.IntKind.wrap Go.IntKind.i64 (x7.2.2.1 + (1 : Int))), (x7.2.1, ())))))
def d7_L2 (x2 : ((Unit × Unit) → (Option ((Bool × Unit) × Unit)))) : (((Unit × (Int × ((List Int) × Unit))) → (Option ((Bool × Unit) × Unit))) → ((Unit × (Int × ((List Int) × Unit))) → (Option ((Bool × Unit) × Unit)))) :=
  (fun (x3 : ((Unit × (Int × ((List Int) × Unit))) → (Option ((Bool × Unit) × Unit)))) => (fun (x4 : (Unit × (Int × ((List Int) × Unit)))) => (lt (((List.length x4.2.2.1) : Nat) : Int) fun (x5 : Int) =>
  (lt (Decidable.decide (x4.2.1 < x5)) fun (x6 : Bool) =>
  (if (x6 = Bool.true) then
  (shr (d7_K1 x3) (fun (x7 : ((Unit × ((List Int) × (Int × Unit))) → (Option ((Bool × Unit) × Unit)))) => (if (((Decidable.decide ((0 : Int) ≤ x4.2.1)) && (Decidable.decide (x4.2.1 < (((List.length x4.2.2.1) : Nat) : Int)))) = Bool.true) then
  (lt (List.getD x4.2.2.1 (Int.toNat x4.2.1) (0 : Int)) fun (x8 : Int) =>
  (lt (Go.IntKind.wrap Go.IntKind.i64 (x4.2.1 - (1 : Int))) fun (x9 : Int) =>
  (if (((Decidable.decide ((0 : Int) ≤ x9)) && (Decidable.decide (x9 < (((List.length x4.2.2.1) : Nat) : Int)))) = Bool.true) then
  (lt (List.getD x4.2.2.1 (Int.toNat x9) (0 : Int)) fun (x10 : Int) =>
  (lt (Decidable.decide (x8 ≤ x10)) fun (x11 : Bool) =>
  (if (x11 = Bool.true) then
  (Option.some ((Bool.false, ()), ()))
  else (x7 ((), (x4.2.2.1, (x4.2.1, ())))))))
  else (Option.none))))
  else (Option.none))))
  else (x2 ((), ())))))))
def d7 : (Nat → (((List Int) × Unit) → (Option ((Bool × Unit) × Unit)))) :=
  (fun (x0 : Nat) => (fun (x1 : ((List Int) × Unit)) => (shr (fun (x2 : (Unit × Unit)) => (Option.some ((Bool.true, ()), ()))) (fun (x2 : ((Unit × Unit) → (Option ((Bool × Unit) × Unit)))) => (loopN (d7_L2 x2) x0 ((), ((1 : Int), (x1.1, ()))))))))
theorem k7 : c_fn Tryz.prog ⟨[], ks0⟩ Tryz.f7 s7 h7 = some d7 := by kernel_rfl
/-- bulkhead/bulkheadlaw18.owner -/
def s24 : Sig := ⟨[((.pair (.sl 82 kPT) (.pair (.sl 42 (.pair (.int .i64) (.pair (.int .i64) (.pair .bool (.pair (.int .i64) kI2))))) (.pair (.sl 39 kCH) .unit))), .val), ((.int .i64), .val)], [((.int .i64), .val)]⟩
 def h24 : Hint := (.seq .leaf
   (.seq (.seq .leaf
   (.cond none
     (.seq .leaf
     .leaf)
     .leaf))
   (.seq .leaf
   .leaf)))
def d24 : (Nat → ((((List PT) × ((List (Int × (Int × (Bool × (Int × I2))))) × ((List CH) × Unit))) × (Int × Unit)) → (Option ((Int × Unit) × Unit)))) :=
  (fun (x0 : Nat) => (fun (x1 : (((List PT) × ((List (Int × (Int × (Bool × (Int × I2))))) × ((List CH) × Unit))) × (Int × Unit))) => (lt (Decidable.decide (x1.2.1 < (1 : Int))) fun (x2 : Bool) =>
  (lt (((List.length x1.1.2.1) : Nat) : Int) fun (x3 : Int) =>
  (lt (Decidable.decide (x1.2.1 > x3)) fun (x4 : Bool) =>
  (lt (if (x2 = Bool.true) then
  Bool.true
  else x4) fun (x5 : Bool) =>
  (if (x5 = Bool.true) then
  (Option.some (((0 : Int), ()), ()))
  else (lt (Go.IntKind.wrap Go.IntKind.i64 (x1.2.1 - (1 : Int))) fun (x6 : Int) =>
  (if (((Decidable.decide ((0 : Int) ≤ x6)) && (Decidable.decide (x6 < (((List.length x1.1.2.1) : Nat) : Int)))) = Bool.true) then
  (Option.some (((List.getD x1.1.2.1 (Int.toNat x6) ((0 : Int), ((0 : Int), (Bool.false, ((0 : Int), ((0 : Int), ((0 : Int), ()))))))).1, ()), ()))
  else (Option.none))))))))))
theorem k24 : c_fn Tryz.prog ⟨[], ks0⟩ Tryz.f24 s24 h24 = some d24 := by kernel_rfl
/-- bulkhead/bulkheadlaw18.in -/
def s10 : Sig := ⟨[((.sl 3 (.int .i64)), .val), ((.int .i64), .val)], [(.bool, .val)]⟩
 def h10 : Hint := (.seq .leaf
   (.seq (.seq .leaf
   (.block ⟨[], []⟩ true
     (.loop ⟨[], [((5, 0), (.val (.int .i64))), ((1, 0), (.val (.int .i64))), ((0, 0), (.val (.sl 3 (.int .i64))))]⟩
       (.seq (.seq .leaf
       (.cond none
         .leaf
         .leaf))
       (.seq (.block ⟨[], [((1, 0), (.val (.int .i64))), ((0, 0), (.val (.sl 3 (.int .i64)))), ((5, 0), (.val (.int .i64)))]⟩ true
         (.seq .leaf
         (.cond none
           (.seq .leaf
           .leaf)
           .leaf)))
       .leaf)))))
   (.seq .leaf
   .leaf)))
def d10_K1 (x3 : ((Unit × (Int × (Int × ((List Int) × Unit)))) → (Option ((Bool × Unit) × Unit)))) : ((Unit × (Int × ((List Int) × (Int × Unit)))) → (Option ((Bool × Unit) × Unit))) :=
  (fun (x7 : (Unit × (Int × ((List Int) × (Int × Unit))))) => (x3 ((), ((Go.IntKind.wrap Go.IntKind.i64 (x7.2.2.2.1 + (1 : Int))), (x7.2.1, (x7.2.2.1, ()))))))
def d10_L2 (x2 : ((Unit × Unit) → (Option ((Bool × Unit) × Unit)))) : (((Unit × (Int × (Int × ((List Int) × Unit)))) → (Option ((Bool × Unit) × Unit))) → ((Unit × (Int × (Int × ((List Int) × Unit)))) → (Option ((Bool × Unit) × Unit)))) :=
  (fun (x3 : ((Unit × (Int × (Int × ((List Int) × Unit)))) → (Option ((Bool × Unit) × Unit)))) => (fun (x4 : (Unit × (Int × (Int × ((List Int) × Unit))))) => (lt (((List.length x4.2.2.2.1) : Nat) : Int) fun (x5 : Int) =>
  (lt (Decidable.decide (x4.2.1 < x5)) fun (x6 : Bool) =>
  (if (x6 = Bool.true) then
  (shr (d10_K1 x3) (fun (x7 : ((Unit × (Int × ((List Int) × (Int × Unit)))) → (Option ((Bool × Unit) × Unit)))) => (if (((Decidable.decide ((0 : Int) ≤ x4.2.1)) && (Decidable.decide (x4.2.1 < (((List.length x4.2.2.2.1) : Nat) : Int)))) = Bool.true) then
  (lt (List.getD x4.2.2.2.1 (Int.toNat x4.2.1) (0 : Int)) fun (x8 : Int) =>
  (lt (x8 == x4.2.2.1) fun (x9 : Bool) =>
  (if (x9 = Bool.true) then
  (Option.some ((Bool.true, ()), ()))
  else (x7 ((), (x4.2.2.1, (x4.2.2.2.1, (x4.2.1, ()))))))))
  else (Option.none))))
  else (x2 ((), ())))))))
def d10 : (Nat → (((List Int) × (Int × Unit)) → (Option ((Bool × Unit) × Unit)))) :=
  (fun (x0 : Nat) => (fun (x1 : ((List Int) × (Int × Unit))) => (shr (fun (x2 : (Unit × Unit)) => (Option.some ((Bool.false, ()), ()))) (fun (x2 : ((Unit × Unit) → (Option ((Bool × Unit) × Unit)))) => (loopN (d10_L2 x2) x0 ((), ((0 : Int), (x1.2.1, (x1.1, ())))))))))
theorem k10 : c_fn Tryz.prog ⟨[], ks0⟩ Tryz.f10 s10 h10 = some d10 := by kernel_rfl
/-- bulkhead/bulkheadlaw18.ends -/
def s8 : Sig := ⟨[((.pair (.sl 82 kPT) (.pair (.sl 42 (.pair (.int .i64) (.pair (.int .i64) (.pair .bool (.pair (.int .i64) kI2))))) (.pair (.sl 39 kCH) .unit))), .val), ((.int .i64), .val)], [(.bool, .val)]⟩
 def h8 : Hint := (.seq .leaf
   (.seq .leaf
   (.seq .leaf
   (.seq (.seq .leaf
   (.cond none
     (.seq .leaf
     .leaf)
     .leaf))
   (.seq (.seq .leaf
   (.cond none
     (.seq .leaf
     .leaf)
     .leaf))
   (.seq (.seq .leaf
   (.block ⟨[((.sl 3 (.int .i64)), (.ow .sh), (7, 0)), ((.ptr 39 kCH), (.ow .sh), (5, 0))], [((7, 0), (.own 0)), ((5, 0), (.own 1))]⟩ true
     (.loop ⟨[((.ptr 26 (.pair (.sl 82 kPT) (.pair (.sl 42 (.pair (.int .i64) (.pair (.int .i64) (.pair .bool (.pair (.int .i64) kI2))))) (.pair (.sl 39 kCH) .unit)))), (.ow .sh), (2, 0)), ((.sl 3 (.int .i64)), (.ow .sh), (7, 0)), ((.ptr 39 kCH), (.ow .sh), (5, 0))], [((9, 0), (.val (.int .i64))), ((1, 0), (.val (.int .i64))), ((2, 0), (.own 0)), ((7, 0), (.own 1)), ((5, 0), (.own 2))]⟩
       (.seq (.seq .leaf
       (.cond none
         .leaf
         .leaf))
       (.seq (.block ⟨[((.ptr 26 (.pair (.sl 82 kPT) (.pair (.sl 42 (.pair (.int .i64) (.pair (.int .i64) (.pair .bool (.pair (.int .i64) kI2))))) (.pair (.sl 39 kCH) .unit)))), (.ow .sh), (2, 0)), ((.sl 3 (.int .i64)), (.ow .sh), (7, 0)), ((.ptr 39 kCH), (.ow .sh), (5, 0))], [((1, 0), (.val (.int .i64))), ((2, 0), (.own 0)), ((7, 0), (.own 1)), ((5, 0), (.own 2)), ((9, 0), (.val (.int .i64)))]⟩ true
         (.seq .leaf
         (.seq .leaf
         (.cond none
           (.seq .leaf
           .leaf)
           .leaf))))
       .leaf)))))
   (.seq .leaf
   .leaf)))))))
def d8_K1 (x0 : Nat) : ((((List Int) × (CH × Unit)) × Unit) → (Option ((Bool × Unit) × Unit))) :=
  (fun (x17 : (((List Int) × (CH × Unit)) × Unit)) => (lt (((List.length x17.1.2.1.2.2.1) : Nat) : Int) fun (x18 : Int) =>
  (lt (Decidable.decide (x18 > (0 : Int))) fun (x19 : Bool) =>
  (lt ((0 : Int) :: ([] : List Int)) fun (x20 : (List Int)) =>
  (Option.bind (if (((x19 == Bool.false) && Bool.true) = Bool.true) then
  (d16 x0 (x17.1.1, (x20, ())))
  else (Option.some ((Bool.false, ()), ()))) fun (x21 : ((Bool × Unit) × Unit)) =>
  (Option.some (((if (x19 = Bool.true) then
  Bool.true
  else x21.1.1), ()), ())))))))
def d8_K2 (x18 : (((((List PT) × ((List (Int × (Int × (Bool × (Int × I2))))) × ((List CH) × Unit))) × ((List Int) × (CH × Unit))) × I2) → (Option ((Bool × Unit) × Unit)))) : (((((List PT) × ((List (Int × (Int × (Bool × (Int × I2))))) × ((List CH) × Unit))) × ((List Int) × (CH × Unit))) × I2) → (Option ((Bool × Unit) × Unit))) :=
  (fun (x22 : ((((List PT) × ((List (Int × (Int × (Bool × (Int × I2))))) × ((List CH) × Unit))) × ((List Int) × (CH × Unit))) × I2)) => (x18 ((x22.1.1, (x22.1.2.1, (x22.1.2.2.1, ()))), ((Go.IntKind.wrap Go.IntKind.i64 (x22.2.2.1 + (1 : Int))), (x22.2.1, ())))))
def d8_L3 (x0 : Nat) (x17 : ((((List Int) × (CH × Unit)) × Unit) → (Option ((Bool × Unit) × Unit)))) : ((((((List PT) × ((List (Int × (Int × (Bool × (Int × I2))))) × ((List CH) × Unit))) × ((List Int) × (CH × Unit))) × I2) → (Option ((Bool × Unit) × Unit))) → (((((List PT) × ((List (Int × (Int × (Bool × (Int × I2))))) × ((List CH) × Unit))) × ((List Int) × (CH × Unit))) × I2) → (Option ((Bool × Unit) × Unit)))) :=
  (fun (x18 : (((((List PT) × ((List (Int × (Int × (Bool × (Int × I2))))) × ((List CH) × Unit))) × ((List Int) × (CH × Unit))) × I2) → (Option ((Bool × Unit) × Unit)))) => (fun (x19 : ((((List PT) × ((List (Int × (Int × (Bool × (Int × I2))))) × ((List CH) × Unit))) × ((List Int) × (CH × Unit))) × I2)) => (lt (((List.length x19.1.2.2.1.2.2.1) : Nat) : Int) fun (x20 : Int) =>
  (lt (Decidable.decide (x19.2.1 < x20)) fun (x21 : Bool) =>
  (if (x21 = Bool.true) then
  (shr (d8_K2 x18) (fun (x22 : (((((List PT) × ((List (Int × (Int × (Bool × (Int × I2))))) × ((List CH) × Unit))) × ((List Int) × (CH × Unit))) × I2) → (Option ((Bool × Unit) × Unit)))) => (if (((Decidable.decide ((0 : Int) ≤ x19.2.1)) && (Decidable.decide (x19.2.1 < (((List.length x19.1.2.2.1.2.2.1) : Nat) : Int)))) = Bool.true) then
  (lt (List.getD x19.1.2.2.1.2.2.1 (Int.toNat x19.2.1) (0 : Int)) fun (x23 : Int) =>
  (Option.bind (d24 x0 (x19.1.1, (x23, ()))) fun (x24 : ((Int × Unit) × Unit)) =>
  (Option.bind (d10 x0 (x19.1.2.1, (x24.1.1, ()))) fun (x25 : ((Bool × Unit) × Unit)) =>
  (lt (Bool.not x25.1.1) fun (x26 : Bool) =>
  (lt (Decidable.decide (x24.1.1 > (0 : Int))) fun (x27 : Bool) =>
  (Option.bind (if (((x27 == Bool.true) && ((x26 == Bool.false) && Bool.true)) = Bool.true) then
  (d6 x0 (x19.1.1, (x24.1.1, ())))
  else (Option.some ((([] : List Int), ()), ()))) fun (x28 : (((List Int) × Unit) × Unit)) =>
  (Option.bind (if (((x27 == Bool.true) && ((x26 == Bool.false) && Bool.true)) = Bool.true) then
  (d10 x0 (x28.1.1, (x19.2.2.1, ())))
  else (Option.some ((Bool.false, ()), ()))) fun (x29 : ((Bool × Unit) × Unit)) =>
  (lt (Bool.not x29.1.1) fun (x30 : Bool) =>
  (lt (if (x27 = Bool.true) then
  x30
  else Bool.false) fun (x31 : Bool) =>
  (lt (if (x26 = Bool.true) then
  Bool.true
  else x31) fun (x32 : Bool) =>
  (if (x32 = Bool.true) then
  (Option.some ((Bool.false, ()), ()))
  else (x22 ((x19.1.1, (x19.1.2.1, (x19.1.2.2.1, ()))), (x19.2.2.1, (x19.2.1, ())))))))))))))))
  else (Option.none))))
  else (x17 ((x19.1.2.1, (x19.1.2.2.1, ())), ())))))))
def d8 : (Nat → ((((List PT) × ((List (Int × (Int × (Bool × (Int × I2))))) × ((List CH) × Unit))) × (Int × Unit)) → (Option ((Bool × Unit) × Unit)))) :=
  (fun (x0 : Nat) => (fun (x1 : (((List PT) × ((List (Int × (Int × (Bool × (Int × I2))))) × ((List CH) × Unit))) × (Int × Unit))) => (lt (Go.IntKind.wrap Go.IntKind.i64 (x1.2.1 - (1 : Int))) fun (x2 : Int) =>
  (if (((Decidable.decide ((0 : Int) ≤ x2)) && (Decidable.decide (x2 < (((List.length x1.1.2.2.1) : Nat) : Int)))) = Bool.true) then
  (lt (List.getD x1.1.2.2.1 (Int.toNat x2) ((0 : Int), ((0 : Int), (([] : List Int), ((0 : Int), ((0 : Int), ())))))) fun (x3 : CH) =>
  (Option.bind (d9 x0 (x1.1, (x1.2.1, ()))) fun (x4 : ((Int × ((List Int) × (Int × Unit))) × Unit)) =>
  (lt (x4.1.2.2.1 != (0 : Int)) fun (x5 : Bool) =>
  (Option.bind (if (((x5 == Bool.false) && Bool.true) = Bool.true) then
  (d24 x0 (x1.1, (x3.2.1, ())))
  else (Option.some (((0 : Int), ()), ()))) fun (x6 : ((Int × Unit) × Unit)) =>
  (lt (x4.1.1 != x6.1.1) fun (x7 : Bool) =>
  (lt (if (x5 = Bool.true) then
  Bool.true
  else x7) fun (x8 : Bool) =>
  (Option.bind (if (((x8 == Bool.false) && Bool.true) = Bool.true) then
  (d7 x0 (x4.1.2.1, ()))
  else (Option.some ((Bool.false, ()), ()))) fun (x9 : ((Bool × Unit) × Unit)) =>
  (lt (Bool.not x9.1.1) fun (x10 : Bool) =>
  (lt (if (x8 = Bool.true) then
  Bool.true
  else x10) fun (x11 : Bool) =>
  (if (x11 = Bool.true) then
  (Option.some ((Bool.false, ()), ()))
  else (lt (Decidable.decide (x4.1.1 > (0 : Int))) fun (x12 : Bool) =>
  (Option.bind (if (((x12 == Bool.true) && Bool.true) = Bool.true) then
  (d5 x0 (x1.1, (x4.1.1, ())))
  else (Option.some ((([] : List Int), ()), ()))) fun (x13 : (((List Int) × Unit) × Unit)) =>
  (Option.bind (if (((x12 == Bool.true) && Bool.true) = Bool.true) then
  (d10 x0 (x13.1.1, (x1.2.1, ())))
  else (Option.some ((Bool.false, ()), ()))) fun (x14 : ((Bool × Unit) × Unit)) =>
  (lt (Bool.not x14.1.1) fun (x15 : Bool) =>
  (lt (if (x12 = Bool.true) then
  x15
  else Bool.false) fun (x16 : Bool) =>
  (if (x16 = Bool.true) then
  (Option.some ((Bool.false, ()), ()))
  else (shr (d8_K1 x0) (fun (x17 : ((((List Int) × (CH × Unit)) × Unit) → (Option ((Bool × Unit) × Unit)))) => (loopN (d8_L3 x0 x17) x0 ((x1.1, (x4.1.2.1, (x3, ()))), ((0 : Int), (x1.2.1, ()))))))))))))))))))))))
  else (Option.none)))))
theorem k8 : c_fn Tryz.prog ⟨[(9, ⟨s9, d9⟩), (24, ⟨s24, d24⟩), (7, ⟨s7, d7⟩), (5, ⟨s5, d5⟩), (10, ⟨s10, d10⟩), (6, ⟨s6, d6⟩), (16, ⟨s16, d16⟩)], ks0⟩ Tryz.f8 s8 h8 = some d8 := by kernel_rfl
/-- bulkhead/check.within -/
def s63 : Sig := ⟨[((.int .i64), .val), ((.int .i64), .val), ((.int .i64), .val)], [(.bool, .val)]⟩
 def h63 : Hint := (.seq .leaf
   (.seq .leaf
   .leaf))
def d63 : (Nat → ((Int × I2) → (Option ((Bool × Unit) × Unit)))) :=
  (fun (x0 : Nat) => (fun (x1 : (Int × I2)) => (lt (Decidable.decide (x1.1 ≥ x1.2.1)) fun (x2 : Bool) =>
  (lt (Decidable.decide (x1.1 ≤ x1.2.2.1)) fun (x3 : Bool) =>
  (Option.some (((if (x2 = Bool.true) then
  x3
  else Bool.false), ()), ()))))))
theorem k63 : c_fn Tryz.prog ⟨[], ks0⟩ Tryz.f63 s63 h63 = some d63 := by kernel_rfl
/-- bulkhead/check.counts$1 -/
def s62 : Sig := ⟨[(kPT, .val)], [(.bool, .val)]⟩
 def h62 : Hint := (.seq .leaf
   (.seq .leaf
   .leaf))
def d62 : (Nat → ((PT × Unit) → (Option ((Bool × Unit) × Unit)))) :=
  (fun (x0 : Nat) => (fun (x1 : (PT × Unit)) => (Option.bind (d63 x0 (x1.1.2.1, ((0 : Int), ((4096 : Int), ())))) fun (x2 : ((Bool × Unit) × Unit)) =>
  (lt (((List.length x1.1.2.2.2.2.1) : Nat) : Int) fun (x3 : Int) =>
  (lt (Decidable.decide (x3 ≤ (1024 : Int))) fun (x4 : Bool) =>
  (Option.some (((if (x2.1.1 = Bool.true) then
  x4
  else Bool.false), ()), ())))))))
theorem k62 : c_fn Tryz.prog ⟨[(63, ⟨s63, d63⟩)], ks0⟩ Tryz.f62 s62 h62 = some d62 := by kernel_rfl
/-- bulkhead/check.counts$2 -/
def s64 : Sig := ⟨[(kPT, .val)], [(.bool, .val)]⟩
 def h64 : Hint := (.seq .leaf
   (.seq .leaf
   .leaf))
def d64 : (Nat → ((PT × Unit) → (Option ((Bool × Unit) × Unit)))) :=
  (fun (x0 : Nat) => (fun (x1 : (PT × Unit)) => (Option.bind (d63 x0 ((((List.length x1.1.2.2.2.2.2.1) : Nat) : Int), ((1 : Int), ((16 : Int), ())))) fun (x2 : ((Bool × Unit) × Unit)) =>
  (Option.some ((x2.1.1, ()), ())))))
theorem k64 : c_fn Tryz.prog ⟨[(63, ⟨s63, d63⟩)], ks0⟩ Tryz.f64 s64 h64 = some d64 := by kernel_rfl
/-- bulkhead/check.counts$3 -/
def s65 : Sig := ⟨[(kPT, .val)], [(.bool, .val)]⟩
 def h65 : Hint := (.seq .leaf
   (.seq .leaf
   .leaf))
def d65 : (Nat → ((PT × Unit) → (Option ((Bool × Unit) × Unit)))) :=
  (fun (x0 : Nat) => (fun (x1 : (PT × Unit)) => (lt (((List.length x1.1.2.2.2.2.2.2.2.2.1) : Nat) : Int) fun (x2 : Int) =>
  (lt (((List.length x1.1.2.2.2.2.2.2.2.2.2.1) : Nat) : Int) fun (x3 : Int) =>
  (lt (((List.length x1.1.2.2.2.2.2.2.2.2.2.2.1) : Nat) : Int) fun (x4 : Int) =>
  (lt (if (x4 > (if (x3 > x2) then
  x3
  else x2)) then
  x4
  else (if (x3 > x2) then
  x3
  else x2)) fun (x5 : Int) =>
  (Option.some (((Decidable.decide (x5 ≤ (8 : Int))), ()), ()))))))))
theorem k65 : c_fn Tryz.prog ⟨[], ks0⟩ Tryz.f65 s65 h65 = some d65 := by kernel_rfl
/-- bulkhead/check.counts -/
def s41 : Sig := ⟨[], [((.sl 120 (.pair (.int .i64) (.pair .fnv .unit))), (.own (.ow .sh)))]⟩
 def h41 : Hint := (.seq .leaf
   (.seq .leaf
   .leaf))
def d41 : (Nat → (Unit → (Option (((List (Int × ((Option Nat) × Unit))) × Unit) × Unit)))) :=
  (fun (x0 : Nat) => (fun (x1 : Unit) => (Option.some (((((100 : Int), ((Option.some 62), ())) :: (((100 : Int), ((Option.some 64), ())) :: (((100 : Int), ((Option.some 65), ())) :: ([] : List (Int × ((Option Nat) × Unit)))))), ()), ()))))
theorem k41 : c_fn Tryz.prog ⟨[(62, ⟨s62, d62⟩), (64, ⟨s64, d64⟩), (65, ⟨s65, d65⟩)], ks0⟩ Tryz.f41 s41 h41 = some d41 := by kernel_rfl
/-- bulkhead/check.parts$1 -/
def s68 : Sig := ⟨[(kPT, .val)], [(.bool, .val)]⟩
 def h68 : Hint := (.seq .leaf
   (.seq .leaf
   .leaf))
def d68 : (Nat → ((PT × Unit) → (Option ((Bool × Unit) × Unit)))) :=
  (fun (x0 : Nat) => (fun (x1 : (PT × Unit)) => (Option.bind (d63 x0 (x1.1.2.2.1, ((0 : Int), (x1.1.2.1, ())))) fun (x2 : ((Bool × Unit) × Unit)) =>
  (lt (((List.length x1.1.2.2.2.1) : Nat) : Int) fun (x3 : Int) =>
  (lt (Decidable.decide (x3 ≤ x1.1.2.1)) fun (x4 : Bool) =>
  (Option.some (((if (x2.1.1 = Bool.true) then
  x4
  else Bool.false), ()), ())))))))
theorem k68 : c_fn Tryz.prog ⟨[(63, ⟨s63, d63⟩)], ks0⟩ Tryz.f68 s68 h68 = some d68 := by kernel_rfl
/-- bulkhead/check.parts$2 -/
def s69 : Sig := ⟨[(kPT, .val)], [(.bool, .val)]⟩
 def h69 : Hint := (.seq .leaf
   (.seq .leaf
   .leaf))
def d69 : (Nat → ((PT × Unit) → (Option ((Bool × Unit) × Unit)))) :=
  (fun (x0 : Nat) => (fun (x1 : (PT × Unit)) => (lt (((List.length x1.1.2.2.2.2.1) : Nat) : Int) fun (x2 : Int) =>
  (Option.some (((Decidable.decide (x2 > (0 : Int))), ()), ())))))
theorem k69 : c_fn Tryz.prog ⟨[], ks0⟩ Tryz.f69 s69 h69 = some d69 := by kernel_rfl
/-- bulkhead/check.proc -/
def s73 : Sig := ⟨[(kPC, .val), ((.int .i64), .val)], [(.bool, .val)]⟩
 def h73 : Hint := (.seq .leaf
   (.seq .leaf
   (.seq .leaf
   .leaf)))
def d73 : (Nat → ((PC × (Int × Unit)) → (Option ((Bool × Unit) × Unit)))) :=
  (fun (x0 : Nat) => (fun (x1 : (PC × (Int × Unit))) => (lt (Go.IntKind.wrap Go.IntKind.i64 (x1.2.1 - (1 : Int))) fun (x2 : Int) =>
  (Option.bind (d63 x0 (x1.1.1, ((0 : Int), (x2, ())))) fun (x3 : ((Bool × Unit) × Unit)) =>
  (Option.bind (if (((x3.1.1 == Bool.true) && Bool.true) = Bool.true) then
  (d63 x0 (x1.1.2.1, ((0 : Int), ((255 : Int), ()))))
  else (Option.some ((Bool.false, ()), ()))) fun (x4 : ((Bool × Unit) × Unit)) =>
  (lt (if (x3.1.1 = Bool.true) then
  x4.1.1
  else Bool.false) fun (x5 : Bool) =>
  (Option.bind (if (((x5 == Bool.true) && Bool.true) = Bool.true) then
  (d63 x0 (x1.1.2.2.2.2.1, ((0 : Int), ((2147483647 : Int), ()))))
  else (Option.some ((Bool.false, ()), ()))) fun (x6 : ((Bool × Unit) × Unit)) =>
  (lt (if (x5 = Bool.true) then
  x6.1.1
  else Bool.false) fun (x7 : Bool) =>
  (Option.bind (if (((x7 == Bool.true) && Bool.true) = Bool.true) then
  (d63 x0 (x1.1.2.2.1, ((0 : Int), ((1099511627775 : Int), ()))))
  else (Option.some ((Bool.false, ()), ()))) fun (x8 : ((Bool × Unit) × Unit)) =>
  (lt (if (x7 = Bool.true) then
  x8.1.1
  else Bool.false) fun (x9 : Bool) =>
  (Option.bind (if (((x9 == Bool.true) && Bool.true) = Bool.true) then
  (d63 x0 (x1.1.2.2.2.1, ((0 : Int), ((1099511627775 : Int), ()))))
  else (Option.some ((Bool.false, ()), ()))) fun (x10 : ((Bool × Unit) × Unit)) =>
  (lt (if (x9 = Bool.true) then
  x10.1.1
  else Bool.false) fun (x11 : Bool) =>
  (lt (x1.1.2.2.1 == (0 : Int)) fun (x12 : Bool) =>
  (lt (Decidable.decide (x1.1.2.2.2.1 ≤ x1.1.2.2.1)) fun (x13 : Bool) =>
  (lt (if (x12 = Bool.true) then
  Bool.true
  else x13) fun (x14 : Bool) =>
  (Option.some (((if (x11 = Bool.true) then
  x14
  else Bool.false), ()), ())))))))))))))))))
theorem k73 : c_fn Tryz.prog ⟨[(63, ⟨s63, d63⟩)], ks0⟩ Tryz.f73 s73 h73 = some d73 := by kernel_rfl
/-- bulkhead/check.parts$3$1 -/
def s72 : Sig := ⟨[(kPC, .val), ((.ptr 82 kPT), .val)], [(.bool, .val)]⟩
 def h72 : Hint := (.seq .leaf
   (.seq .leaf
   .leaf))
def d72 : (Nat → ((PC × (PT × Unit)) → (Option ((Bool × Unit) × Unit)))) :=
  (fun (x0 : Nat) => (fun (x1 : (PC × (PT × Unit))) => (Option.bind (d73 x0 (x1.1, ((((List.length x1.2.1.2.2.2.2.1) : Nat) : Int), ()))) fun (x2 : ((Bool × Unit) × Unit)) =>
  (Option.some ((x2.1.1, ()), ())))))
theorem k72 : c_fn Tryz.prog ⟨[(73, ⟨s73, d73⟩)], ks0⟩ Tryz.f72 s72 h72 = some d72 := by kernel_rfl
/-- bulkhead/check.all[bulkhead/api.Proc]$1 -/
def s96 : Sig := ⟨[(kPC, .val), ((.ptr 128 (.fn 72 (.pair (.ptr 82 kPT) .unit))), .val)], [(.bool, .val)]⟩
 def h96 : Hint := (.seq .leaf
   (.seq .leaf
   .leaf))
def d96 : (Nat → ((PC × ((PT × Unit) × Unit)) → (Option ((Bool × Unit) × Unit)))) :=
  (fun (x0 : Nat) => (fun (x1 : (PC × ((PT × Unit) × Unit))) => (Option.bind (d72 x0 (x1.1, (x1.2.1.1, ()))) fun (x2 : ((Bool × Unit) × Unit)) =>
  (Option.some (((Bool.not x2.1.1), ()), ())))))
theorem k96 : c_fn Tryz.prog ⟨[(72, ⟨s72, d72⟩)], ks0⟩ Tryz.f96 s96 h96 = some d96 := by kernel_rfl
/-- slices.IndexFunc[[]bulkhead/api.Proc,bulkhead/api.Proc] -/
def s103 : Sig := ⟨[((.sl 126 kPC), .val), ((.fn 96 (.pair (.ptr 128 (.fn 72 (.pair (.ptr 82 kPT) .unit))) .unit)), .val)], [((.int .i64), .val)]⟩
 def h103 : Hint := (.seq .leaf
   (.seq (.seq .leaf
   (.block ⟨[], []⟩ true
     (.loop ⟨[], [((8, 0), (.val (.int .i64))), ((0, 0), (.val (.sl 126 kPC))), ((1, 0), (.val (.fn 96 (.pair (.ptr 128 (.fn 72 (.pair (.ptr 82 kPT) .unit))) .unit)))), ((7, 0), (.val (.int .i64)))]⟩
       (.seq .leaf
       (.seq (.cond none
         .leaf
         .leaf)
       (.seq (.block ⟨[], [((0, 0), (.val (.sl 126 kPC))), ((1, 0), (.val (.fn 96 (.pair (.ptr 128 (.fn 72 (.pair (.ptr 82 kPT) .unit))) .unit)))), ((7, 0), (.val (.int .i64))), ((8, 0), (.val (.int .i64)))]⟩ true
         (.seq .leaf
         (.seq .leaf
         (.cond none
           (.seq .leaf
           .leaf)
           .leaf))))
       .leaf))))))
   (.seq .leaf
   .leaf)))
def d103_K1 (x3 : ((Unit × (Int × ((List PC) × (((PT × Unit) × Unit) × (Int × Unit))))) → (Option ((Int × Unit) × Unit)))) : ((Unit × ((List PC) × (((PT × Unit) × Unit) × I2))) → (Option ((Int × Unit) × Unit))) :=
  (fun (x6 : (Unit × ((List PC) × (((PT × Unit) × Unit) × I2)))) => (x3 ((), ((Go.IntKind.wrap Go.IntKind.i64 (x6.2.2.2.2.1 + (1 : Int))), (x6.2.1, (x6.2.2.1, (x6.2.2.2.1, ())))))))
def d103_L2 (x0 : Nat) (x2 : ((Unit × Unit) → (Option ((Int × Unit) × Unit)))) : (((Unit × (Int × ((List PC) × (((PT × Unit) × Unit) × (Int × Unit))))) → (Option ((Int × Unit) × Unit))) → ((Unit × (Int × ((List PC) × (((PT × Unit) × Unit) × (Int × Unit))))) → (Option ((Int × Unit) × Unit)))) :=
  (fun (x3 : ((Unit × (Int × ((List PC) × (((PT × Unit) × Unit) × (Int × Unit))))) → (Option ((Int × Unit) × Unit)))) => (fun (x4 : (Unit × (Int × ((List PC) × (((PT × Unit) × Unit) × (Int × Unit)))))) => (lt (Decidable.decide (x4.2.1 < x4.2.2.2.2.1)) fun (x5 : Bool) =>
  (if (x5 = Bool.true) then
  (shr (d103_K1 x3) (fun (x6 : ((Unit × ((List PC) × (((PT × Unit) × Unit) × I2))) → (Option ((Int × Unit) × Unit)))) => (if (((Decidable.decide ((0 : Int) ≤ x4.2.1)) && (Decidable.decide (x4.2.1 < (((List.length x4.2.2.1) : Nat) : Int)))) = Bool.true) then
  (lt (List.getD x4.2.2.1 (Int.toNat x4.2.1) ((0 : Int), ((0 : Int), ((0 : Int), ((0 : Int), ((0 : Int), (Bool.false, ()))))))) fun (x7 : PC) =>
  (Option.bind (d96 x0 (x7, (x4.2.2.2.1.1, ()))) fun (x8 : ((Bool × Unit) × Unit)) =>
  (if (x8.1.1 = Bool.true) then
  (Option.some ((x4.2.1, ()), ()))
  else (x6 ((), (x4.2.2.1, (x4.2.2.2.1, (x4.2.2.2.2.1, (x4.2.1, ())))))))))
  else (Option.none))))
  else (x2 ((), ()))))))
def d103 : (Nat → (((List PC) × (((PT × Unit) × Unit) × Unit)) → (Option ((Int × Unit) × Unit)))) :=
  (fun (x0 : Nat) => (fun (x1 : ((List PC) × (((PT × Unit) × Unit) × Unit))) => (shr (fun (x2 : (Unit × Unit)) => (Option.some (((Neg.neg (1 : Int)), ()), ()))) (fun (x2 : ((Unit × Unit) → (Option ((Int × Unit) × Unit)))) => (loopN (d103_L2 x0 x2) x0 ((), ((0 : Int), (x1.1, (x1.2.1, ((((List.length x1.1) : Nat) : Int), ()))))))))))
theorem k103 : c_fn Tryz.prog ⟨[(72, ⟨s72, d72⟩), (96, ⟨s96, d96⟩)], ks0⟩ Tryz.f103 s103 h103 = some d103 := by kernel_rfl
/-- slices.ContainsFunc[[]bulkhead/api.Proc,bulkhead/api.Proc] -/
def s95 : Sig := ⟨[((.sl 126 kPC), .val), ((.fn 96 (.pair (.ptr 128 (.fn 72 (.pair (.ptr 82 kPT) .unit))) .unit)), .val)], [(.bool, .val)]⟩
 def h95 : Hint := (.seq .leaf
   (.seq .leaf
   .leaf))
def d95 : (Nat → (((List PC) × (((PT × Unit) × Unit) × Unit)) → (Option ((Bool × Unit) × Unit)))) :=
  (fun (x0 : Nat) => (fun (x1 : ((List PC) × (((PT × Unit) × Unit) × Unit))) => (Option.bind (d103 x0 (x1.1, (x1.2.1, ()))) fun (x2 : ((Int × Unit) × Unit)) =>
  (Option.some (((Decidable.decide (x2.1.1 ≥ (0 : Int))), ()), ())))))
theorem k95 : c_fn Tryz.prog ⟨[(103, ⟨s103, d103⟩), (72, ⟨s72, d72⟩), (96, ⟨s96, d96⟩)], ks0⟩ Tryz.f95 s95 h95 = some d95 := by kernel_rfl
/-- bulkhead/check.all[bulkhead/api.Proc] -/
def s71 : Sig := ⟨[((.sl 126 kPC), .val), ((.fn 72 (.pair (.ptr 82 kPT) .unit)), .val)], [(.bool, .val)]⟩
 def h71 : Hint := (.seq .leaf
   (.seq (.pre ⟨[], [((3, 0), (.val (.ptr 128 (.fn 72 (.pair (.ptr 82 kPT) .unit))))), ((0, 0), (.val (.sl 126 kPC)))]⟩ .leaf)
   .leaf))
def d71 : (Nat → (((List PC) × ((PT × Unit) × Unit)) → (Option ((Bool × Unit) × Unit)))) :=
  (fun (x0 : Nat) => (fun (x1 : ((List PC) × ((PT × Unit) × Unit))) => (Option.bind (d95 x0 (x1.1, ((x1.2.1, ()), ()))) fun (x2 : ((Bool × Unit) × Unit)) =>
  (Option.some (((Bool.not x2.1.1), ()), ())))))
theorem k71 : c_fn Tryz.prog ⟨[(96, ⟨s96, d96⟩), (95, ⟨s95, d95⟩), (72, ⟨s72, d72⟩)], ks0⟩ Tryz.f71 s71 h71 = some d71 := by kernel_rfl
/-- bulkhead/check.parts$3 -/
def s70 : Sig := ⟨[(kPT, .val)], [(.bool, .val)]⟩
 def h70 : Hint := (.seq .leaf
   (.seq (.pre ⟨[], [((1, 0), (.val (.ptr 82 kPT)))]⟩ .leaf)
   .leaf))
def d70 : (Nat → ((PT × Unit) → (Option ((Bool × Unit) × Unit)))) :=
  (fun (x0 : Nat) => (fun (x1 : (PT × Unit)) => (Option.bind (d71 x0 (x1.1.2.2.2.2.2.1, ((x1.1, ()), ()))) fun (x2 : ((Bool × Unit) × Unit)) =>
  (Option.some ((x2.1.1, ()), ())))))
theorem k70 : c_fn Tryz.prog ⟨[(72, ⟨s72, d72⟩), (71, ⟨s71, d71⟩)], ks0⟩ Tryz.f70 s70 h70 = some d70 := by kernel_rfl
/-- bulkhead/check.parts$4$1 -/
def s76 : Sig := ⟨[(kI2, .val)], [(.bool, .val)]⟩
 def h76 : Hint := (.seq .leaf
   (.seq .leaf
   .leaf))
def d76 : (Nat → ((I2 × Unit) → (Option ((Bool × Unit) × Unit)))) :=
  (fun (x0 : Nat) => (fun (x1 : (I2 × Unit)) => (Option.bind (d63 x0 (x1.1.2.1, ((1 : Int), ((2147483647 : Int), ())))) fun (x2 : ((Bool × Unit) × Unit)) =>
  (Option.bind (if (((x2.1.1 == Bool.true) && Bool.true) = Bool.true) then
  (d63 x0 (x1.1.1, ((0 : Int), (x1.1.2.1, ()))))
  else (Option.some ((Bool.false, ()), ()))) fun (x3 : ((Bool × Unit) × Unit)) =>
  (Option.some (((if (x2.1.1 = Bool.true) then
  x3.1.1
  else Bool.false), ()), ()))))))
theorem k76 : c_fn Tryz.prog ⟨[(63, ⟨s63, d63⟩)], ks0⟩ Tryz.f76 s76 h76 = some d76 := by kernel_rfl
/-- bulkhead/check.all[bulkhead/api.Sem]$1 -/
def s98 : Sig := ⟨[(kI2, .val), ((.ptr 132 (.fn 76 .unit)), .val)], [(.bool, .val)]⟩
 def h98 : Hint := (.seq .leaf
   (.seq .leaf
   .leaf))
def d98 : (Nat → ((I2 × (Unit × Unit)) → (Option ((Bool × Unit) × Unit)))) :=
  (fun (x0 : Nat) => (fun (x1 : (I2 × (Unit × Unit))) => (Option.bind (d76 x0 (x1.1, ())) fun (x2 : ((Bool × Unit) × Unit)) =>
  (Option.some (((Bool.not x2.1.1), ()), ())))))
theorem k98 : c_fn Tryz.prog ⟨[(76, ⟨s76, d76⟩)], ks0⟩ Tryz.f98 s98 h98 = some d98 := by kernel_rfl
/-- slices.IndexFunc[[]bulkhead/api.Sem,bulkhead/api.Sem] -/
def s104 : Sig := ⟨[((.sl 131 kI2), .val), ((.fn 98 (.pair (.ptr 132 (.fn 76 .unit)) .unit)), .val)], [((.int .i64), .val)]⟩
 def h104 : Hint := (.seq .leaf
   (.seq (.seq .leaf
   (.block ⟨[], []⟩ true
     (.loop ⟨[], [((8, 0), (.val (.int .i64))), ((0, 0), (.val (.sl 131 kI2))), ((1, 0), (.val (.fn 98 (.pair (.ptr 132 (.fn 76 .unit)) .unit)))), ((7, 0), (.val (.int .i64)))]⟩
       (.seq .leaf
       (.seq (.cond none
         .leaf
         .leaf)
       (.seq (.block ⟨[], [((0, 0), (.val (.sl 131 kI2))), ((1, 0), (.val (.fn 98 (.pair (.ptr 132 (.fn 76 .unit)) .unit)))), ((7, 0), (.val (.int .i64))), ((8, 0), (.val (.int .i64)))]⟩ true
         (.seq .leaf
         (.seq .leaf
         (.cond none
           (.seq .leaf
           .leaf)
           .leaf))))
       .leaf))))))
   (.seq .leaf
   .leaf)))
def d104_K1 (x3 : ((Unit × (Int × ((List I2) × ((Unit × Unit) × (Int × Unit))))) → (Option ((Int × Unit) × Unit)))) : ((Unit × ((List I2) × ((Unit × Unit) × I2))) → (Option ((Int × Unit) × Unit))) :=
  (fun (x6 : (Unit × ((List I2) × ((Unit × Unit) × I2)))) => (x3 ((), ((Go.IntKind.wrap Go.IntKind.i64 (x6.2.2.2.2.1 + (1 : Int))), (x6.2.1, (x6.2.2.1, (x6.2.2.2.1, ())))))))
def d104_L2 (x0 : Nat) (x2 : ((Unit × Unit) → (Option ((Int × Unit) × Unit)))) : (((Unit × (Int × ((List I2) × ((Unit × Unit) × (Int × Unit))))) → (Option ((Int × Unit) × Unit))) → ((Unit × (Int × ((List I2) × ((Unit × Unit) × (Int × Unit))))) → (Option ((Int × Unit) × Unit)))) :=
  (fun (x3 : ((Unit × (Int × ((List I2) × ((Unit × Unit) × (Int × Unit))))) → (Option ((Int × Unit) × Unit)))) => (fun (x4 : (Unit × (Int × ((List I2) × ((Unit × Unit) × (Int × Unit)))))) => (lt (Decidable.decide (x4.2.1 < x4.2.2.2.2.1)) fun (x5 : Bool) =>
  (if (x5 = Bool.true) then
  (shr (d104_K1 x3) (fun (x6 : ((Unit × ((List I2) × ((Unit × Unit) × I2))) → (Option ((Int × Unit) × Unit)))) => (if (((Decidable.decide ((0 : Int) ≤ x4.2.1)) && (Decidable.decide (x4.2.1 < (((List.length x4.2.2.1) : Nat) : Int)))) = Bool.true) then
  (lt (List.getD x4.2.2.1 (Int.toNat x4.2.1) ((0 : Int), ((0 : Int), ()))) fun (x7 : I2) =>
  (Option.bind (d98 x0 (x7, (x4.2.2.2.1.1, ()))) fun (x8 : ((Bool × Unit) × Unit)) =>
  (if (x8.1.1 = Bool.true) then
  (Option.some ((x4.2.1, ()), ()))
  else (x6 ((), (x4.2.2.1, (x4.2.2.2.1, (x4.2.2.2.2.1, (x4.2.1, ())))))))))
  else (Option.none))))
  else (x2 ((), ()))))))
def d104 : (Nat → (((List I2) × ((Unit × Unit) × Unit)) → (Option ((Int × Unit) × Unit)))) :=
  (fun (x0 : Nat) => (fun (x1 : ((List I2) × ((Unit × Unit) × Unit))) => (shr (fun (x2 : (Unit × Unit)) => (Option.some (((Neg.neg (1 : Int)), ()), ()))) (fun (x2 : ((Unit × Unit) → (Option ((Int × Unit) × Unit)))) => (loopN (d104_L2 x0 x2) x0 ((), ((0 : Int), (x1.1, (x1.2.1, ((((List.length x1.1) : Nat) : Int), ()))))))))))
theorem k104 : c_fn Tryz.prog ⟨[(76, ⟨s76, d76⟩), (98, ⟨s98, d98⟩)], ks0⟩ Tryz.f104 s104 h104 = some d104 := by kernel_rfl
/-- slices.ContainsFunc[[]bulkhead/api.Sem,bulkhead/api.Sem] -/
def s97 : Sig := ⟨[((.sl 131 kI2), .val), ((.fn 98 (.pair (.ptr 132 (.fn 76 .unit)) .unit)), .val)], [(.bool, .val)]⟩
 def h97 : Hint := (.seq .leaf
   (.seq .leaf
   .leaf))
def d97 : (Nat → (((List I2) × ((Unit × Unit) × Unit)) → (Option ((Bool × Unit) × Unit)))) :=
  (fun (x0 : Nat) => (fun (x1 : ((List I2) × ((Unit × Unit) × Unit))) => (Option.bind (d104 x0 (x1.1, (x1.2.1, ()))) fun (x2 : ((Int × Unit) × Unit)) =>
  (Option.some (((Decidable.decide (x2.1.1 ≥ (0 : Int))), ()), ())))))
theorem k97 : c_fn Tryz.prog ⟨[(104, ⟨s104, d104⟩), (76, ⟨s76, d76⟩), (98, ⟨s98, d98⟩)], ks0⟩ Tryz.f97 s97 h97 = some d97 := by kernel_rfl
/-- bulkhead/check.all[bulkhead/api.Sem] -/
def s75 : Sig := ⟨[((.sl 131 kI2), .val), ((.fn 76 .unit), .val)], [(.bool, .val)]⟩
 def h75 : Hint := (.seq .leaf
   (.seq (.pre ⟨[], [((3, 0), (.val (.ptr 132 (.fn 76 .unit)))), ((0, 0), (.val (.sl 131 kI2)))]⟩ .leaf)
   .leaf))
def d75 : (Nat → (((List I2) × (Unit × Unit)) → (Option ((Bool × Unit) × Unit)))) :=
  (fun (x0 : Nat) => (fun (x1 : ((List I2) × (Unit × Unit))) => (Option.bind (d97 x0 (x1.1, ((x1.2.1, ()), ()))) fun (x2 : ((Bool × Unit) × Unit)) =>
  (Option.some (((Bool.not x2.1.1), ()), ())))))
theorem k75 : c_fn Tryz.prog ⟨[(98, ⟨s98, d98⟩), (97, ⟨s97, d97⟩), (76, ⟨s76, d76⟩)], ks0⟩ Tryz.f75 s75 h75 = some d75 := by kernel_rfl
/-- bulkhead/check.parts$4 -/
def s74 : Sig := ⟨[(kPT, .val)], [(.bool, .val)]⟩
 def h74 : Hint := (.seq .leaf
   (.seq .leaf
   .leaf))
def d74 : (Nat → ((PT × Unit) → (Option ((Bool × Unit) × Unit)))) :=
  (fun (x0 : Nat) => (fun (x1 : (PT × Unit)) => (Option.bind (d75 x0 (x1.1.2.2.2.2.2.2.2.2.1, ((), ()))) fun (x2 : ((Bool × Unit) × Unit)) =>
  (Option.some ((x2.1.1, ()), ())))))
theorem k74 : c_fn Tryz.prog ⟨[(75, ⟨s75, d75⟩), (76, ⟨s76, d76⟩)], ks0⟩ Tryz.f74 s74 h74 = some d74 := by kernel_rfl
/-- bulkhead/check.parts$5$1 -/
def s79 : Sig := ⟨[(kI2, .val)], [(.bool, .val)]⟩
 def h79 : Hint := (.seq .leaf
   (.seq .leaf
   .leaf))
def d79 : (Nat → ((I2 × Unit) → (Option ((Bool × Unit) × Unit)))) :=
  (fun (x0 : Nat) => (fun (x1 : (I2 × Unit)) => (Option.bind (d63 x0 (x1.1.1, ((1 : Int), ((16 : Int), ())))) fun (x2 : ((Bool × Unit) × Unit)) =>
  (Option.bind (if (((x2.1.1 == Bool.true) && Bool.true) = Bool.true) then
  (d63 x0 (x1.1.2.1, ((1 : Int), ((64 : Int), ()))))
  else (Option.some ((Bool.false, ()), ()))) fun (x3 : ((Bool × Unit) × Unit)) =>
  (Option.some (((if (x2.1.1 = Bool.true) then
  x3.1.1
  else Bool.false), ()), ()))))))
theorem k79 : c_fn Tryz.prog ⟨[(63, ⟨s63, d63⟩)], ks0⟩ Tryz.f79 s79 h79 = some d79 := by kernel_rfl
/-- bulkhead/check.all[bulkhead/api.Buffer]$1 -/
def s100 : Sig := ⟨[(kI2, .val), ((.ptr 136 (.fn 79 .unit)), .val)], [(.bool, .val)]⟩
 def h100 : Hint := (.seq .leaf
   (.seq .leaf
   .leaf))
def d100 : (Nat → ((I2 × (Unit × Unit)) → (Option ((Bool × Unit) × Unit)))) :=
  (fun (x0 : Nat) => (fun (x1 : (I2 × (Unit × Unit))) => (Option.bind (d79 x0 (x1.1, ())) fun (x2 : ((Bool × Unit) × Unit)) =>
  (Option.some (((Bool.not x2.1.1), ()), ())))))
theorem k100 : c_fn Tryz.prog ⟨[(79, ⟨s79, d79⟩)], ks0⟩ Tryz.f100 s100 h100 = some d100 := by kernel_rfl
/-- slices.IndexFunc[[]bulkhead/api.Buffer,bulkhead/api.Buffer] -/
def s105 : Sig := ⟨[((.sl 135 kI2), .val), ((.fn 100 (.pair (.ptr 136 (.fn 79 .unit)) .unit)), .val)], [((.int .i64), .val)]⟩
 def h105 : Hint := (.seq .leaf
   (.seq (.seq .leaf
   (.block ⟨[], []⟩ true
     (.loop ⟨[], [((8, 0), (.val (.int .i64))), ((0, 0), (.val (.sl 135 kI2))), ((1, 0), (.val (.fn 100 (.pair (.ptr 136 (.fn 79 .unit)) .unit)))), ((7, 0), (.val (.int .i64)))]⟩
       (.seq .leaf
       (.seq (.cond none
         .leaf
         .leaf)
       (.seq (.block ⟨[], [((0, 0), (.val (.sl 135 kI2))), ((1, 0), (.val (.fn 100 (.pair (.ptr 136 (.fn 79 .unit)) .unit)))), ((7, 0), (.val (.int .i64))), ((8, 0), (.val (.int .i64)))]⟩ true
         (.seq .leaf
         (.seq .leaf
         (.cond none
           (.seq .leaf
           .leaf)
           .leaf))))
       .leaf))))))
   (.seq .leaf
   .leaf)))
def d105_K1 (x3 : ((Unit × (Int × ((List I2) × ((Unit × Unit) × (Int × Unit))))) → (Option ((Int × Unit) × Unit)))) : ((Unit × ((List I2) × ((Unit × Unit) × I2))) → (Option ((Int × Unit) × Unit))) :=
  (fun (x6 : (Unit × ((List I2) × ((Unit × Unit) × I2)))) => (x3 ((), ((Go.IntKind.wrap Go.IntKind.i64 (x6.2.2.2.2.1 + (1 : Int))), (x6.2.1, (x6.2.2.1, (x6.2.2.2.1, ())))))))
def d105_L2 (x0 : Nat) (x2 : ((Unit × Unit) → (Option ((Int × Unit) × Unit)))) : (((Unit × (Int × ((List I2) × ((Unit × Unit) × (Int × Unit))))) → (Option ((Int × Unit) × Unit))) → ((Unit × (Int × ((List I2) × ((Unit × Unit) × (Int × Unit))))) → (Option ((Int × Unit) × Unit)))) :=
  (fun (x3 : ((Unit × (Int × ((List I2) × ((Unit × Unit) × (Int × Unit))))) → (Option ((Int × Unit) × Unit)))) => (fun (x4 : (Unit × (Int × ((List I2) × ((Unit × Unit) × (Int × Unit)))))) => (lt (Decidable.decide (x4.2.1 < x4.2.2.2.2.1)) fun (x5 : Bool) =>
  (if (x5 = Bool.true) then
  (shr (d105_K1 x3) (fun (x6 : ((Unit × ((List I2) × ((Unit × Unit) × I2))) → (Option ((Int × Unit) × Unit)))) => (if (((Decidable.decide ((0 : Int) ≤ x4.2.1)) && (Decidable.decide (x4.2.1 < (((List.length x4.2.2.1) : Nat) : Int)))) = Bool.true) then
  (lt (List.getD x4.2.2.1 (Int.toNat x4.2.1) ((0 : Int), ((0 : Int), ()))) fun (x7 : I2) =>
  (Option.bind (d100 x0 (x7, (x4.2.2.2.1.1, ()))) fun (x8 : ((Bool × Unit) × Unit)) =>
  (if (x8.1.1 = Bool.true) then
  (Option.some ((x4.2.1, ()), ()))
  else (x6 ((), (x4.2.2.1, (x4.2.2.2.1, (x4.2.2.2.2.1, (x4.2.1, ())))))))))
  else (Option.none))))
  else (x2 ((), ()))))))
def d105 : (Nat → (((List I2) × ((Unit × Unit) × Unit)) → (Option ((Int × Unit) × Unit)))) :=
  (fun (x0 : Nat) => (fun (x1 : ((List I2) × ((Unit × Unit) × Unit))) => (shr (fun (x2 : (Unit × Unit)) => (Option.some (((Neg.neg (1 : Int)), ()), ()))) (fun (x2 : ((Unit × Unit) → (Option ((Int × Unit) × Unit)))) => (loopN (d105_L2 x0 x2) x0 ((), ((0 : Int), (x1.1, (x1.2.1, ((((List.length x1.1) : Nat) : Int), ()))))))))))
theorem k105 : c_fn Tryz.prog ⟨[(79, ⟨s79, d79⟩), (100, ⟨s100, d100⟩)], ks0⟩ Tryz.f105 s105 h105 = some d105 := by kernel_rfl
/-- slices.ContainsFunc[[]bulkhead/api.Buffer,bulkhead/api.Buffer] -/
def s99 : Sig := ⟨[((.sl 135 kI2), .val), ((.fn 100 (.pair (.ptr 136 (.fn 79 .unit)) .unit)), .val)], [(.bool, .val)]⟩
 def h99 : Hint := (.seq .leaf
   (.seq .leaf
   .leaf))
def d99 : (Nat → (((List I2) × ((Unit × Unit) × Unit)) → (Option ((Bool × Unit) × Unit)))) :=
  (fun (x0 : Nat) => (fun (x1 : ((List I2) × ((Unit × Unit) × Unit))) => (Option.bind (d105 x0 (x1.1, (x1.2.1, ()))) fun (x2 : ((Int × Unit) × Unit)) =>
  (Option.some (((Decidable.decide (x2.1.1 ≥ (0 : Int))), ()), ())))))
theorem k99 : c_fn Tryz.prog ⟨[(105, ⟨s105, d105⟩), (79, ⟨s79, d79⟩), (100, ⟨s100, d100⟩)], ks0⟩ Tryz.f99 s99 h99 = some d99 := by kernel_rfl
/-- bulkhead/check.all[bulkhead/api.Buffer] -/
def s78 : Sig := ⟨[((.sl 135 kI2), .val), ((.fn 79 .unit), .val)], [(.bool, .val)]⟩
 def h78 : Hint := (.seq .leaf
   (.seq (.pre ⟨[], [((3, 0), (.val (.ptr 136 (.fn 79 .unit)))), ((0, 0), (.val (.sl 135 kI2)))]⟩ .leaf)
   .leaf))
def d78 : (Nat → (((List I2) × (Unit × Unit)) → (Option ((Bool × Unit) × Unit)))) :=
  (fun (x0 : Nat) => (fun (x1 : ((List I2) × (Unit × Unit))) => (Option.bind (d99 x0 (x1.1, ((x1.2.1, ()), ()))) fun (x2 : ((Bool × Unit) × Unit)) =>
  (Option.some (((Bool.not x2.1.1), ()), ())))))
theorem k78 : c_fn Tryz.prog ⟨[(100, ⟨s100, d100⟩), (99, ⟨s99, d99⟩), (79, ⟨s79, d79⟩)], ks0⟩ Tryz.f78 s78 h78 = some d78 := by kernel_rfl
/-- bulkhead/check.parts$5 -/
def s77 : Sig := ⟨[(kPT, .val)], [(.bool, .val)]⟩
 def h77 : Hint := (.seq .leaf
   (.seq .leaf
   .leaf))
def d77 : (Nat → ((PT × Unit) → (Option ((Bool × Unit) × Unit)))) :=
  (fun (x0 : Nat) => (fun (x1 : (PT × Unit)) => (Option.bind (d78 x0 (x1.1.2.2.2.2.2.2.2.2.2.2.1, ((), ()))) fun (x2 : ((Bool × Unit) × Unit)) =>
  (Option.some ((x2.1.1, ()), ())))))
theorem k77 : c_fn Tryz.prog ⟨[(78, ⟨s78, d78⟩), (79, ⟨s79, d79⟩)], ks0⟩ Tryz.f77 s77 h77 = some d77 := by kernel_rfl
/-- bulkhead/check.parts$6$1 -/
def s82 : Sig := ⟨[((.int .i64), .val)], [(.bool, .val)]⟩
 def h82 : Hint := (.seq .leaf
   (.seq .leaf
   .leaf))
def d82 : (Nat → ((Int × Unit) → (Option ((Bool × Unit) × Unit)))) :=
  (fun (x0 : Nat) => (fun (x1 : (Int × Unit)) => (Option.bind (d63 x0 (x1.1, ((0 : Int), ((5 : Int), ())))) fun (x2 : ((Bool × Unit) × Unit)) =>
  (Option.some ((x2.1.1, ()), ())))))
theorem k82 : c_fn Tryz.prog ⟨[(63, ⟨s63, d63⟩)], ks0⟩ Tryz.f82 s82 h82 = some d82 := by kernel_rfl
/-- bulkhead/check.all[int]$1 -/
def s101 : Sig := ⟨[((.int .i64), .val), ((.ptr 52 (.fn 82 .unit)), .val)], [(.bool, .val)]⟩
 def h101 : Hint := (.seq .leaf
   (.seq .leaf
   .leaf))
def d101 : (Nat → ((Int × (Unit × Unit)) → (Option ((Bool × Unit) × Unit)))) :=
  (fun (x0 : Nat) => (fun (x1 : (Int × (Unit × Unit))) => (Option.bind (d82 x0 (x1.1, ())) fun (x2 : ((Bool × Unit) × Unit)) =>
  (Option.some (((Bool.not x2.1.1), ()), ())))))
theorem k101 : c_fn Tryz.prog ⟨[(82, ⟨s82, d82⟩)], ks0⟩ Tryz.f101 s101 h101 = some d101 := by kernel_rfl
/-- slices.IndexFunc[[]int,int] -/
def s36 : Sig := ⟨[((.sl 3 (.int .i64)), .val), ((.fn 101 (.pair (.ptr 52 (.fn 82 .unit)) .unit)), .val)], [((.int .i64), .val)]⟩
 def h36 : Hint := (.seq .leaf
   (.seq (.seq .leaf
   (.block ⟨[], []⟩ true
     (.loop ⟨[], [((8, 0), (.val (.int .i64))), ((0, 0), (.val (.sl 3 (.int .i64)))), ((1, 0), (.val (.fn 101 (.pair (.ptr 52 (.fn 82 .unit)) .unit)))), ((7, 0), (.val (.int .i64)))]⟩
       (.seq .leaf
       (.seq (.cond none
         .leaf
         .leaf)
       (.seq (.block ⟨[], [((0, 0), (.val (.sl 3 (.int .i64)))), ((1, 0), (.val (.fn 101 (.pair (.ptr 52 (.fn 82 .unit)) .unit)))), ((7, 0), (.val (.int .i64))), ((8, 0), (.val (.int .i64)))]⟩ true
         (.seq .leaf
         (.seq .leaf
         (.cond none
           (.seq .leaf
           .leaf)
           .leaf))))
       .leaf))))))
   (.seq .leaf
   .leaf)))
def d36_K1 (x3 : ((Unit × (Int × ((List Int) × ((Unit × Unit) × (Int × Unit))))) → (Option ((Int × Unit) × Unit)))) : ((Unit × ((List Int) × ((Unit × Unit) × I2))) → (Option ((Int × Unit) × Unit))) :=
  (fun (x6 : (Unit × ((List Int) × ((Unit × Unit) × I2)))) => (x3 ((), ((Go.IntKind.wrap Go.IntKind.i64 (x6.2.2.2.2.1 + (1 : Int))), (x6.2.1, (x6.2.2.1, (x6.2.2.2.1, ())))))))
def d36_L2 (x0 : Nat) (x2 : ((Unit × Unit) → (Option ((Int × Unit) × Unit)))) : (((Unit × (Int × ((List Int) × ((Unit × Unit) × (Int × Unit))))) → (Option ((Int × Unit) × Unit))) → ((Unit × (Int × ((List Int) × ((Unit × Unit) × (Int × Unit))))) → (Option ((Int × Unit) × Unit)))) :=
  (fun (x3 : ((Unit × (Int × ((List Int) × ((Unit × Unit) × (Int × Unit))))) → (Option ((Int × Unit) × Unit)))) => (fun (x4 : (Unit × (Int × ((List Int) × ((Unit × Unit) × (Int × Unit)))))) => (lt (Decidable.decide (x4.2.1 < x4.2.2.2.2.1)) fun (x5 : Bool) =>
  (if (x5 = Bool.true) then
  (shr (d36_K1 x3) (fun (x6 : ((Unit × ((List Int) × ((Unit × Unit) × I2))) → (Option ((Int × Unit) × Unit)))) => (if (((Decidable.decide ((0 : Int) ≤ x4.2.1)) && (Decidable.decide (x4.2.1 < (((List.length x4.2.2.1) : Nat) : Int)))) = Bool.true) then
  (lt (List.getD x4.2.2.1 (Int.toNat x4.2.1) (0 : Int)) fun (x7 : Int) =>
  (Option.bind (d101 x0 (x7, (x4.2.2.2.1.1, ()))) fun (x8 : ((Bool × Unit) × Unit)) =>
  (if (x8.1.1 = Bool.true) then
  (Option.some ((x4.2.1, ()), ()))
  else (x6 ((), (x4.2.2.1, (x4.2.2.2.1, (x4.2.2.2.2.1, (x4.2.1, ())))))))))
  else (Option.none))))
  else (x2 ((), ()))))))
def d36 : (Nat → (((List Int) × ((Unit × Unit) × Unit)) → (Option ((Int × Unit) × Unit)))) :=
  (fun (x0 : Nat) => (fun (x1 : ((List Int) × ((Unit × Unit) × Unit))) => (shr (fun (x2 : (Unit × Unit)) => (Option.some (((Neg.neg (1 : Int)), ()), ()))) (fun (x2 : ((Unit × Unit) → (Option ((Int × Unit) × Unit)))) => (loopN (d36_L2 x0 x2) x0 ((), ((0 : Int), (x1.1, (x1.2.1, ((((List.length x1.1) : Nat) : Int), ()))))))))))
theorem k36 : c_fn Tryz.prog ⟨[(82, ⟨s82, d82⟩), (101, ⟨s101, d101⟩)], ks0⟩ Tryz.f36 s36 h36 = some d36 := by kernel_rfl
/-- bulkhead/channel.Inlet$1$1 -/
def s23 : Sig := ⟨[((.int .i64), .val), ((.ptr 26 (.pair (.sl 82 kPT) (.pair (.sl 42 (.pair (.int .i64) (.pair (.int .i64) (.pair .bool (.pair (.int .i64) kI2))))) (.pair (.sl 39 kCH) .unit)))), .val), ((.ptr 3 (.int .i64)), .val)], [(.bool, .val)]⟩
 def h23 : Hint := (.seq .leaf
   (.seq .leaf
   .leaf))
def d23 : (Nat → ((Int × (((List PT) × ((List (Int × (Int × (Bool × (Int × I2))))) × ((List CH) × Unit))) × (Int × Unit))) → (Option ((Bool × Unit) × Unit)))) :=
  (fun (x0 : Nat) => (fun (x1 : (Int × (((List PT) × ((List (Int × (Int × (Bool × (Int × I2))))) × ((List CH) × Unit))) × (Int × Unit)))) => (Option.bind (d20 x0 (x1.2.1, (x1.1, ()))) fun (x2 : ((Int × Unit) × Unit)) =>
  (Option.some (((x2.1.1 == x1.2.2.1), ()), ())))))
theorem k23 : c_fn Tryz.prog ⟨[(20, ⟨s20, d20⟩)], ks0⟩ Tryz.f23 s23 h23 = some d23 := by kernel_rfl
/-- slices.IndexFunc[[]int,int] -/
def s36x1 : Sig := ⟨[((.sl 3 (.int .i64)), .val), ((.fn 23 (.pair (.ptr 26 (.pair (.sl 82 kPT) (.pair (.sl 42 (.pair (.int .i64) (.pair (.int .i64) (.pair .bool (.pair (.int .i64) kI2))))) (.pair (.sl 39 kCH) .unit)))) (.pair (.ptr 3 (.int .i64)) .unit))), .val)], [((.int .i64), .val)]⟩
 def h36x1 : Hint := (.seq .leaf
   (.seq (.seq .leaf
   (.block ⟨[], []⟩ true
     (.loop ⟨[], [((8, 0), (.val (.int .i64))), ((0, 0), (.val (.sl 3 (.int .i64)))), ((1, 0), (.val (.fn 23 (.pair (.ptr 26 (.pair (.sl 82 kPT) (.pair (.sl 42 (.pair (.int .i64) (.pair (.int .i64) (.pair .bool (.pair (.int .i64) kI2))))) (.pair (.sl 39 kCH) .unit)))) (.pair (.ptr 3 (.int .i64)) .unit))))), ((7, 0), (.val (.int .i64)))]⟩
       (.seq .leaf
       (.seq (.cond none
         .leaf
         .leaf)
       (.seq (.block ⟨[], [((0, 0), (.val (.sl 3 (.int .i64)))), ((1, 0), (.val (.fn 23 (.pair (.ptr 26 (.pair (.sl 82 kPT) (.pair (.sl 42 (.pair (.int .i64) (.pair (.int .i64) (.pair .bool (.pair (.int .i64) kI2))))) (.pair (.sl 39 kCH) .unit)))) (.pair (.ptr 3 (.int .i64)) .unit))))), ((7, 0), (.val (.int .i64))), ((8, 0), (.val (.int .i64)))]⟩ true
         (.seq .leaf
         (.seq .leaf
         (.cond none
           (.seq .leaf
           .leaf)
           .leaf))))
       .leaf))))))
   (.seq .leaf
   .leaf)))
def d36x1_K1 (x3 : ((Unit × (Int × ((List Int) × ((((List PT) × ((List (Int × (Int × (Bool × (Int × I2))))) × ((List CH) × Unit))) × (Int × Unit)) × (Int × Unit))))) → (Option ((Int × Unit) × Unit)))) : ((Unit × ((List Int) × ((((List PT) × ((List (Int × (Int × (Bool × (Int × I2))))) × ((List CH) × Unit))) × (Int × Unit)) × I2))) → (Option ((Int × Unit) × Unit))) :=
  (fun (x6 : (Unit × ((List Int) × ((((List PT) × ((List (Int × (Int × (Bool × (Int × I2))))) × ((List CH) × Unit))) × (Int × Unit)) × I2)))) => (x3 ((), ((Go.IntKind.wrap Go.IntKind.i64 (x6.2.2.2.2.1 + (1 : Int))), (x6.2.1, (x6.2.2.1, (x6.2.2.2.1, ())))))))
def d36x1_L2 (x0 : Nat) (x2 : ((Unit × Unit) → (Option ((Int × Unit) × Unit)))) : (((Unit × (Int × ((List Int) × ((((List PT) × ((List (Int × (Int × (Bool × (Int × I2))))) × ((List CH) × Unit))) × (Int × Unit)) × (Int × Unit))))) → (Option ((Int × Unit) × Unit))) → ((Unit × (Int × ((List Int) × ((((List PT) × ((List (Int × (Int × (Bool × (Int × I2))))) × ((List CH) × Unit))) × (Int × Unit)) × (Int × Unit))))) → (Option ((Int × Unit) × Unit)))) :=
  (fun (x3 : ((Unit × (Int × ((List Int) × ((((List PT) × ((List (Int × (Int × (Bool × (Int × I2))))) × ((List CH) × Unit))) × (Int × Unit)) × (Int × Unit))))) → (Option ((Int × Unit) × Unit)))) => (fun (x4 : (Unit × (Int × ((List Int) × ((((List PT) × ((List (Int × (Int × (Bool × (Int × I2))))) × ((List CH) × Unit))) × (Int × Unit)) × (Int × Unit)))))) => (lt (Decidable.decide (x4.2.1 < x4.2.2.2.2.1)) fun (x5 : Bool) =>
  (if (x5 = Bool.true) then
  (shr (d36x1_K1 x3) (fun (x6 : ((Unit × ((List Int) × ((((List PT) × ((List (Int × (Int × (Bool × (Int × I2))))) × ((List CH) × Unit))) × (Int × Unit)) × I2))) → (Option ((Int × Unit) × Unit)))) => (if (((Decidable.decide ((0 : Int) ≤ x4.2.1)) && (Decidable.decide (x4.2.1 < (((List.length x4.2.2.1) : Nat) : Int)))) = Bool.true) then
  (lt (List.getD x4.2.2.1 (Int.toNat x4.2.1) (0 : Int)) fun (x7 : Int) =>
  (Option.bind (d23 x0 (x7, (x4.2.2.2.1.1, (x4.2.2.2.1.2.1, ())))) fun (x8 : ((Bool × Unit) × Unit)) =>
  (if (x8.1.1 = Bool.true) then
  (Option.some ((x4.2.1, ()), ()))
  else (x6 ((), (x4.2.2.1, (x4.2.2.2.1, (x4.2.2.2.2.1, (x4.2.1, ())))))))))
  else (Option.none))))
  else (x2 ((), ()))))))
def d36x1 : (Nat → (((List Int) × ((((List PT) × ((List (Int × (Int × (Bool × (Int × I2))))) × ((List CH) × Unit))) × (Int × Unit)) × Unit)) → (Option ((Int × Unit) × Unit)))) :=
  (fun (x0 : Nat) => (fun (x1 : ((List Int) × ((((List PT) × ((List (Int × (Int × (Bool × (Int × I2))))) × ((List CH) × Unit))) × (Int × Unit)) × Unit))) => (shr (fun (x2 : (Unit × Unit)) => (Option.some (((Neg.neg (1 : Int)), ()), ()))) (fun (x2 : ((Unit × Unit) → (Option ((Int × Unit) × Unit)))) => (loopN (d36x1_L2 x0 x2) x0 ((), ((0 : Int), (x1.1, (x1.2.1, ((((List.length x1.1) : Nat) : Int), ()))))))))))
theorem k36x1 : c_fn Tryz.prog ⟨[(23, ⟨s23, d23⟩)], ks0⟩ Tryz.f36 s36x1 h36x1 = some d36x1 := by kernel_rfl
/-- slices.ContainsFunc[[]int,int] -/
def s22 : Sig := ⟨[((.sl 3 (.int .i64)), .val), ((.fn 101 (.pair (.ptr 52 (.fn 82 .unit)) .unit)), .val)], [(.bool, .val)]⟩
 def h22 : Hint := (.seq .leaf
   (.seq .leaf
   .leaf))
def d22 : (Nat → (((List Int) × ((Unit × Unit) × Unit)) → (Option ((Bool × Unit) × Unit)))) :=
  (fun (x0 : Nat) => (fun (x1 : ((List Int) × ((Unit × Unit) × Unit))) => (Option.bind (d36 x0 (x1.1, (x1.2.1, ()))) fun (x2 : ((Int × Unit) × Unit)) =>
  (Option.some (((Decidable.decide (x2.1.1 ≥ (0 : Int))), ()), ())))))
theorem k22 : c_fn Tryz.prog ⟨[(36, ⟨s36x1, d36x1⟩), (36, ⟨s36, d36⟩), (82, ⟨s82, d82⟩), (101, ⟨s101, d101⟩)], ks0⟩ Tryz.f22 s22 h22 = some d22 := by kernel_rfl
/-- slices.ContainsFunc[[]int,int] -/
def s22x1 : Sig := ⟨[((.sl 3 (.int .i64)), .val), ((.fn 23 (.pair (.ptr 26 (.pair (.sl 82 kPT) (.pair (.sl 42 (.pair (.int .i64) (.pair (.int .i64) (.pair .bool (.pair (.int .i64) kI2))))) (.pair (.sl 39 kCH) .unit)))) (.pair (.ptr 3 (.int .i64)) .unit))), .val)], [(.bool, .val)]⟩
 def h22x1 : Hint := (.seq .leaf
   (.seq .leaf
   .leaf))
def d22x1 : (Nat → (((List Int) × ((((List PT) × ((List (Int × (Int × (Bool × (Int × I2))))) × ((List CH) × Unit))) × (Int × Unit)) × Unit)) → (Option ((Bool × Unit) × Unit)))) :=
  (fun (x0 : Nat) => (fun (x1 : ((List Int) × ((((List PT) × ((List (Int × (Int × (Bool × (Int × I2))))) × ((List CH) × Unit))) × (Int × Unit)) × Unit))) => (Option.bind (d36x1 x0 (x1.1, (x1.2.1, ()))) fun (x2 : ((Int × Unit) × Unit)) =>
  (Option.some (((Decidable.decide (x2.1.1 ≥ (0 : Int))), ()), ())))))
theorem k22x1 : c_fn Tryz.prog ⟨[(36, ⟨s36x1, d36x1⟩), (36, ⟨s36, d36⟩), (23, ⟨s23, d23⟩)], ks0⟩ Tryz.f22 s22x1 h22x1 = some d22x1 := by kernel_rfl
/-- bulkhead/check.all[int] -/
def s81 : Sig := ⟨[((.sl 3 (.int .i64)), .val), ((.fn 82 .unit), .val)], [(.bool, .val)]⟩
 def h81 : Hint := (.seq .leaf
   (.seq (.pre ⟨[], [((3, 0), (.val (.ptr 52 (.fn 82 .unit)))), ((0, 0), (.val (.sl 3 (.int .i64))))]⟩ .leaf)
   .leaf))
def d81 : (Nat → (((List Int) × (Unit × Unit)) → (Option ((Bool × Unit) × Unit)))) :=
  (fun (x0 : Nat) => (fun (x1 : ((List Int) × (Unit × Unit))) => (Option.bind (d22 x0 (x1.1, ((x1.2.1, ()), ()))) fun (x2 : ((Bool × Unit) × Unit)) =>
  (Option.some (((Bool.not x2.1.1), ()), ())))))
theorem k81 : c_fn Tryz.prog ⟨[(101, ⟨s101, d101⟩), (22, ⟨s22x1, d22x1⟩), (22, ⟨s22, d22⟩), (82, ⟨s82, d82⟩)], ks0⟩ Tryz.f81 s81 h81 = some d81 := by kernel_rfl
/-- bulkhead/check.parts$6 -/
def s80 : Sig := ⟨[(kPT, .val)], [(.bool, .val)]⟩
 def h80 : Hint := (.seq .leaf
   (.seq (.pre ⟨[], [((1, 0), (.val (.ptr 82 kPT)))]⟩ .leaf)
   .leaf))
def d80 : (Nat → ((PT × Unit) → (Option ((Bool × Unit) × Unit)))) :=
  (fun (x0 : Nat) => (fun (x1 : (PT × Unit)) => (if (((Decidable.decide ((0 : Int) ≤ (0 : Int))) && (Decidable.decide ((0 : Int) < (((8 : Nat) : Nat) : Int)))) = Bool.true) then
  (lt (List.getD x1.1.2.2.2.2.2.2.2.1 (Int.toNat (0 : Int)) (0 : Int)) fun (x2 : Int) =>
  (lt (x2 == (0 : Int)) fun (x3 : Bool) =>
  (Option.bind (if (((x3 == Bool.true) && Bool.true) = Bool.true) then
  (d81 x0 (x1.1.2.2.2.2.2.2.2.1, ((), ())))
  else (Option.some ((Bool.false, ()), ()))) fun (x4 : ((Bool × Unit) × Unit)) =>
  (Option.some (((if (x3 = Bool.true) then
  x4.1.1
  else Bool.false), ()), ())))))
  else (Option.none))))
theorem k80 : c_fn Tryz.prog ⟨[(81, ⟨s81, d81⟩), (82, ⟨s82, d82⟩)], ks0⟩ Tryz.f80 s80 h80 = some d80 := by kernel_rfl
/-- bulkhead/check.handler -/
def s83 : Sig := ⟨[(kPT, .val)], [(.bool, .val)]⟩
 def h83 : Hint := (.seq .leaf
   (.seq (.seq .leaf
   (.cond none
     (.seq .leaf
     .leaf)
     .leaf))
   (.seq (.seq .leaf
   (.cond none
     (.seq .leaf
     .leaf)
     .leaf))
   (.seq .leaf
   (.seq .leaf
   .leaf)))))
def d83 : (Nat → ((PT × Unit) → (Option ((Bool × Unit) × Unit)))) :=
  (fun (x0 : Nat) => (fun (x1 : (PT × Unit)) => (lt (x1.1.2.2.2.2.2.2.1 == (0 : Int)) fun (x2 : Bool) =>
  (if (x2 = Bool.true) then
  (Option.some ((Bool.true, ()), ()))
  else (lt (((List.length x1.1.2.2.2.2.2.1) : Nat) : Int) fun (x3 : Int) =>
  (Option.bind (d63 x0 (x1.1.2.2.2.2.2.2.1, ((1 : Int), (x3, ())))) fun (x4 : ((Bool × Unit) × Unit)) =>
  (lt (Bool.not x4.1.1) fun (x5 : Bool) =>
  (if (x5 = Bool.true) then
  (Option.some ((Bool.false, ()), ()))
  else (lt (Go.IntKind.wrap Go.IntKind.i64 (x1.1.2.2.2.2.2.2.1 - (1 : Int))) fun (x6 : Int) =>
  (if (((Decidable.decide ((0 : Int) ≤ x6)) && (Decidable.decide (x6 < (((List.length x1.1.2.2.2.2.2.1) : Nat) : Int)))) = Bool.true) then
  (lt (List.getD x1.1.2.2.2.2.2.1 (Int.toNat x6) ((0 : Int), ((0 : Int), ((0 : Int), ((0 : Int), ((0 : Int), (Bool.false, ()))))))) fun (x7 : PC) =>
  (lt (x7.2.2.1 == (0 : Int)) fun (x8 : Bool) =>
  (lt (x7.2.2.2.1 == (0 : Int)) fun (x9 : Bool) =>
  (lt (if (x8 = Bool.true) then
  x9
  else Bool.false) fun (x10 : Bool) =>
  (lt (Bool.not x7.2.2.2.2.2.1) fun (x11 : Bool) =>
  (Option.some (((if (x10 = Bool.true) then
  x11
  else Bool.false), ()), ())))))))
  else (Option.none)))))))))))
theorem k83 : c_fn Tryz.prog ⟨[(63, ⟨s63, d63⟩)], ks0⟩ Tryz.f83 s83 h83 = some d83 := by kernel_rfl
/-- bulkhead/check.hold[bulkhead/api.Part] -/
def s40 : Sig := ⟨[((.sl 120 (.pair (.int .i64) (.pair .fnv .unit))), .val), (kPT, .val), ((.int .i64), .val)], [((.ifc 66 (.ptr 70 kI2)), (.own (.ow (.ow .sh))))]⟩
 def h40 : Hint := (.seq .leaf
   (.seq (.seq .leaf
   (.block ⟨[], []⟩ true
     (.loop ⟨[((.ptr 82 kPT), (.ow .sh), (4, 0))], [((2, 0), (.val (.int .i64))), ((11, 0), (.val (.int .i64))), ((4, 0), (.own 0)), ((9, 0), (.val (.sl 120 (.pair (.int .i64) (.pair .fnv .unit))))), ((10, 0), (.val (.int .i64)))]⟩
       (.seq .leaf
       (.seq (.cond none
         .leaf
         .leaf)
       (.seq (.block ⟨[((.ptr 82 kPT), (.ow .sh), (4, 0))], [((2, 0), (.val (.int .i64))), ((4, 0), (.own 0)), ((9, 0), (.val (.sl 120 (.pair (.int .i64) (.pair .fnv .unit))))), ((10, 0), (.val (.int .i64))), ((11, 0), (.val (.int .i64)))]⟩ true
         (.seq .leaf
         (.seq .leaf
         (.cond none
           (.seq .leaf
           .leaf)
           .leaf))))
       .leaf))))))
   (.seq .leaf
   .leaf)))
def d40_K1  : ((Unit × Unit) → (Option (((Option I2) × Unit) × Unit))) :=
  (fun (x2 : (Unit × Unit)) => (Option.some (((Option.none), ()), ())))
def d40_K2 (x3 : (((PT × Unit) × (Int × (Int × ((List (Int × ((Option Nat) × Unit))) × (Int × Unit))))) → (Option (((Option I2) × Unit) × Unit)))) : (((PT × Unit) × (Int × ((List (Int × ((Option Nat) × Unit))) × I2))) → (Option (((Option I2) × Unit) × Unit))) :=
  (fun (x6 : ((PT × Unit) × (Int × ((List (Int × ((Option Nat) × Unit))) × I2)))) => (x3 ((x6.1.1, ()), (x6.2.1, ((Go.IntKind.wrap Go.IntKind.i64 (x6.2.2.2.2.1 + (1 : Int))), (x6.2.2.1, (x6.2.2.2.1, ())))))))
def d40_L3 (x0 : Nat) (x2 : ((Unit × Unit) → (Option (((Option I2) × Unit) × Unit)))) : ((((PT × Unit) × (Int × (Int × ((List (Int × ((Option Nat) × Unit))) × (Int × Unit))))) → (Option (((Option I2) × Unit) × Unit))) → (((PT × Unit) × (Int × (Int × ((List (Int × ((Option Nat) × Unit))) × (Int × Unit))))) → (Option (((Option I2) × Unit) × Unit)))) :=
  (fun (x3 : (((PT × Unit) × (Int × (Int × ((List (Int × ((Option Nat) × Unit))) × (Int × Unit))))) → (Option (((Option I2) × Unit) × Unit)))) => (fun (x4 : ((PT × Unit) × (Int × (Int × ((List (Int × ((Option Nat) × Unit))) × (Int × Unit)))))) => (lt (Decidable.decide (x4.2.2.1 < x4.2.2.2.2.1)) fun (x5 : Bool) =>
  (if (x5 = Bool.true) then
  (shr (d40_K2 x3) (fun (x6 : (((PT × Unit) × (Int × ((List (Int × ((Option Nat) × Unit))) × I2))) → (Option (((Option I2) × Unit) × Unit)))) => (if (((Decidable.decide ((0 : Int) ≤ x4.2.2.1)) && (Decidable.decide (x4.2.2.1 < (((List.length x4.2.2.2.1) : Nat) : Int)))) = Bool.true) then
  (lt (List.getD x4.2.2.2.1 (Int.toNat x4.2.2.1) ((0 : Int), ((Option.none), ()))) fun (x7 : (Int × ((Option Nat) × Unit))) =>
  (Option.bind (Option.bind x7.2.1 fun (x8 : Nat) =>
  (if ((62 : Nat) = x8) then
  (d62 x0 (x4.1.1, ()))
  else (if ((64 : Nat) = x8) then
  (d64 x0 (x4.1.1, ()))
  else (if ((65 : Nat) = x8) then
  (d65 x0 (x4.1.1, ()))
  else (if ((68 : Nat) = x8) then
  (d68 x0 (x4.1.1, ()))
  else (if ((69 : Nat) = x8) then
  (d69 x0 (x4.1.1, ()))
  else (if ((70 : Nat) = x8) then
  (d70 x0 (x4.1.1, ()))
  else (if ((74 : Nat) = x8) then
  (d74 x0 (x4.1.1, ()))
  else (if ((77 : Nat) = x8) then
  (d77 x0 (x4.1.1, ()))
  else (if ((80 : Nat) = x8) then
  (d80 x0 (x4.1.1, ()))
  else (if ((83 : Nat) = x8) then
  (d83 x0 (x4.1.1, ()))
  else (Option.none)))))))))))) fun (x8 : ((Bool × Unit) × Unit)) =>
  (lt (Bool.not x8.1.1) fun (x9 : Bool) =>
  (if (x9 = Bool.true) then
  (Option.some (((Option.some (x7.1, (x4.2.1, ()))), ()), ()))
  else (x6 ((x4.1.1, ()), (x4.2.1, (x4.2.2.2.1, (x4.2.2.2.2.1, (x4.2.2.1, ()))))))))))
  else (Option.none))))
  else (x2 ((), ()))))))
def d40 : (Nat → (((List (Int × ((Option Nat) × Unit))) × (PT × (Int × Unit))) → (Option (((Option I2) × Unit) × Unit)))) :=
  (fun (x0 : Nat) => (fun (x1 : ((List (Int × ((Option Nat) × Unit))) × (PT × (Int × Unit)))) => (shr d40_K1 (fun (x2 : ((Unit × Unit) → (Option (((Option I2) × Unit) × Unit)))) => (loopN (d40_L3 x0 x2) x0 ((x1.2.1, ()), (x1.2.2.1, ((0 : Int), (x1.1, ((((List.length x1.1) : Nat) : Int), ()))))))))))
theorem k40 : c_fn Tryz.prog ⟨[(62, ⟨s62, d62⟩), (64, ⟨s64, d64⟩), (65, ⟨s65, d65⟩), (68, ⟨s68, d68⟩), (69, ⟨s69, d69⟩), (70, ⟨s70, d70⟩), (74, ⟨s74, d74⟩), (77, ⟨s77, d77⟩), (80, ⟨s80, d80⟩), (83, ⟨s83, d83⟩)], ks0⟩ Tryz.f40 s40 h40 = some d40 := by kernel_rfl
/-- bulkhead/check.servers -/
def s66 : Sig := ⟨[((.sl 73 kSV), .val)], [((.ifc 66 (.ptr 70 kI2)), (.own (.ow (.ow .sh))))]⟩
 def h66 : Hint := (.seq .leaf
   (.seq (.seq .leaf
   (.cond none
     (.seq .leaf
     .leaf)
     .leaf))
   (.seq .leaf
   (.seq (.seq .leaf
   (.block ⟨[], []⟩ true
     (.loop ⟨[((.ptr 158 (.arr 256 .bool)), (.ow .sh), (3, 0))], [((14, 0), (.val (.int .i64))), ((3, 0), (.own 0)), ((12, 0), (.val (.sl 73 kSV))), ((13, 0), (.val (.int .i64)))]⟩
       (.seq .leaf
       (.seq (.cond none
         .leaf
         .leaf)
       (.seq (.block ⟨[((.ptr 158 (.arr 256 .bool)), (.ow .sh), (3, 0))], [((3, 0), (.own 0)), ((12, 0), (.val (.sl 73 kSV))), ((13, 0), (.val (.int .i64))), ((14, 0), (.val (.int .i64)))]⟩ true
         (.seq .leaf
         (.seq (.seq .leaf
         (.cond none
           (.seq .leaf
           .leaf)
           .leaf))
         .leaf)))
       .leaf))))))
   (.seq .leaf
   .leaf)))))
def d66_K1  : ((Unit × Unit) → (Option (((Option I2) × Unit) × Unit))) :=
  (fun (x4 : (Unit × Unit)) => (Option.some (((Option.none), ()), ())))
def d66_K2 (x5 : ((((List Bool) × Unit) × (Int × ((List SV) × (Int × Unit)))) → (Option (((Option I2) × Unit) × Unit)))) : ((((List Bool) × Unit) × ((List SV) × I2)) → (Option (((Option I2) × Unit) × Unit))) :=
  (fun (x8 : (((List Bool) × Unit) × ((List SV) × I2))) => (x5 ((x8.1.1, ()), ((Go.IntKind.wrap Go.IntKind.i64 (x8.2.2.2.1 + (1 : Int))), (x8.2.1, (x8.2.2.1, ()))))))
def d66_L3 (x0 : Nat) (x4 : ((Unit × Unit) → (Option (((Option I2) × Unit) × Unit)))) : (((((List Bool) × Unit) × (Int × ((List SV) × (Int × Unit)))) → (Option (((Option I2) × Unit) × Unit))) → ((((List Bool) × Unit) × (Int × ((List SV) × (Int × Unit)))) → (Option (((Option I2) × Unit) × Unit)))) :=
  (fun (x5 : ((((List Bool) × Unit) × (Int × ((List SV) × (Int × Unit)))) → (Option (((Option I2) × Unit) × Unit)))) => (fun (x6 : (((List Bool) × Unit) × (Int × ((List SV) × (Int × Unit))))) => (lt (Decidable.decide (x6.2.1 < x6.2.2.2.1)) fun (x7 : Bool) =>
  (if (x7 = Bool.true) then
  (shr (d66_K2 x5) (fun (x8 : ((((List Bool) × Unit) × ((List SV) × I2)) → (Option (((Option I2) × Unit) × Unit)))) => (if (((Decidable.decide ((0 : Int) ≤ x6.2.1)) && (Decidable.decide (x6.2.1 < (((List.length x6.2.2.1) : Nat) : Int)))) = Bool.true) then
  (lt (List.getD x6.2.2.1 (Int.toNat x6.2.1) ((0 : Int), ((0 : Int), ((0 : Int), ((0 : Int), ()))))) fun (x9 : SV) =>
  (Option.bind (d63 x0 (x9.1, ((1 : Int), ((1048576 : Int), ())))) fun (x10 : ((Bool × Unit) × Unit)) =>
  (lt (Bool.not x10.1.1) fun (x11 : Bool) =>
  (Option.bind (if (((x11 == Bool.false) && Bool.true) = Bool.true) then
  (d63 x0 (x9.2.1, ((1 : Int), (x9.1, ()))))
  else (Option.some ((Bool.false, ()), ()))) fun (x12 : ((Bool × Unit) × Unit)) =>
  (lt (Bool.not x12.1.1) fun (x13 : Bool) =>
  (lt (if (x11 = Bool.true) then
  Bool.true
  else x13) fun (x14 : Bool) =>
  (lt (Go.IntKind.wrap Go.IntKind.i64 (x9.1 - (1 : Int))) fun (x15 : Int) =>
  (Option.bind (if (((x14 == Bool.false) && Bool.true) = Bool.true) then
  (d63 x0 (x9.2.2.1, ((0 : Int), (x15, ()))))
  else (Option.some ((Bool.false, ()), ()))) fun (x16 : ((Bool × Unit) × Unit)) =>
  (lt (Bool.not x16.1.1) fun (x17 : Bool) =>
  (lt (if (x14 = Bool.true) then
  Bool.true
  else x17) fun (x18 : Bool) =>
  (Option.bind (if (((x18 == Bool.false) && Bool.true) = Bool.true) then
  (d63 x0 (x9.2.2.2.1, ((0 : Int), ((255 : Int), ()))))
  else (Option.some ((Bool.false, ()), ()))) fun (x19 : ((Bool × Unit) × Unit)) =>
  (lt (Bool.not x19.1.1) fun (x20 : Bool) =>
  (lt (if (x18 = Bool.true) then
  Bool.true
  else x20) fun (x21 : Bool) =>
  (if (((Bool.not ((x21 == Bool.false) && Bool.true)) || ((Decidable.decide ((0 : Int) ≤ x9.2.2.2.1)) && (Decidable.decide (x9.2.2.2.1 < (((256 : Nat) : Nat) : Int))))) = Bool.true) then
  (if (((Bool.not ((x21 == Bool.false) && Bool.true)) || ((Decidable.decide ((Int.toNat x9.2.2.2.1) < (List.length x6.1.1))) && Bool.true)) = Bool.true) then
  (lt (List.getD x6.1.1 (Int.toNat x9.2.2.2.1) Bool.false) fun (x22 : Bool) =>
  (lt (if (x21 = Bool.true) then
  Bool.true
  else x22) fun (x23 : Bool) =>
  (if (x23 = Bool.true) then
  (Option.some (((Option.some ((101 : Int), ((Go.IntKind.wrap Go.IntKind.i64 (x6.2.1 + (1 : Int))), ()))), ()), ()))
  else (if (((Decidable.decide ((0 : Int) ≤ x9.2.2.2.1)) && (Decidable.decide (x9.2.2.2.1 < (((256 : Nat) : Nat) : Int)))) = Bool.true) then
  (if (((Decidable.decide ((Int.toNat x9.2.2.2.1) < (List.length x6.1.1))) && Bool.true) = Bool.true) then
  (x8 (((List.set x6.1.1 (Int.toNat x9.2.2.2.1) Bool.true), ()), (x6.2.2.1, (x6.2.2.2.1, (x6.2.1, ())))))
  else (Option.none))
  else (Option.none)))))
  else (Option.none))
  else (Option.none)))))))))))))))
  else (Option.none))))
  else (x4 ((), ()))))))
def d66 : (Nat → (((List SV) × Unit) → (Option (((Option I2) × Unit) × Unit)))) :=
  (fun (x0 : Nat) => (fun (x1 : ((List SV) × Unit)) => (lt (((List.length x1.1) : Nat) : Int) fun (x2 : Int) =>
  (lt (Decidable.decide (x2 > (32 : Int))) fun (x3 : Bool) =>
  (if (x3 = Bool.true) then
  (Option.some (((Option.some ((100 : Int), ((0 : Int), ()))), ()), ()))
  else (shr d66_K1 (fun (x4 : ((Unit × Unit) → (Option (((Option I2) × Unit) × Unit)))) => (loopN (d66_L3 x0 x4) x0 (((List.replicate (256 : Nat) Bool.false), ()), ((0 : Int), (x1.1, ((((List.length x1.1) : Nat) : Int), ()))))))))))))
theorem k66 : c_fn Tryz.prog ⟨[(63, ⟨s63, d63⟩)], ks0⟩ Tryz.f66 s66 h66 = some d66 := by kernel_rfl
/-- bulkhead/num.Gcd[int] -/
def s94 : Sig := ⟨[((.int .i64), .val), ((.int .i64), .val)], [((.int .i64), .val)]⟩
 def h94 : Hint := (.seq .leaf
   (.seq (.block ⟨[], [((0, 0), (.val (.int .i64)))]⟩ true
     (.loop ⟨[], [((1, 0), (.val (.int .i64))), ((0, 0), (.val (.int .i64)))]⟩
       (.seq (.seq .leaf
       (.cond none
         .leaf
         .leaf))
       (.block ⟨[], [((1, 0), (.val (.int .i64))), ((0, 0), (.val (.int .i64)))]⟩ true
         (.seq (.seq .leaf
         (.cond none
           (.seq .leaf
           .leaf)
           .leaf))
         .leaf)))))
   (.seq (.seq .leaf
   (.cond (some ⟨[], [((0, 0), (.val (.int .i64)))]⟩)
     .leaf
     .leaf))
   (.seq .leaf
   .leaf))))
def d94_K1  : ((Unit × (Int × Unit)) → (Option ((Int × Unit) × Unit))) :=
  (fun (x4 : (Unit × (Int × Unit))) => (Option.some (((if ((0 : Int) > x4.2.1) then
  (0 : Int)
  else x4.2.1), ()), ())))
def d94_K2  : ((Unit × (Int × Unit)) → (Option ((Int × Unit) × Unit))) :=
  (fun (x2 : (Unit × (Int × Unit))) => (lt (Decidable.decide (x2.2.1 < (0 : Int))) fun (x3 : Bool) =>
  (shr d94_K1 (fun (x4 : ((Unit × (Int × Unit)) → (Option ((Int × Unit) × Unit)))) => (if (x3 = Bool.true) then
  (x4 ((), ((Go.IntKind.wrap Go.IntKind.i64 ((0 : Int) - x2.2.1)), ())))
  else (x4 ((), (x2.2.1, ()))))))))
def d94_K3 (x3 : ((Unit × I2) → (Option ((Int × Unit) × Unit)))) : ((Unit × I2) → (Option ((Int × Unit) × Unit))) :=
  (fun (x6 : (Unit × I2)) => (x3 ((), (x6.2.1, (x6.2.2.1, ())))))
def d94_L4 (x2 : ((Unit × (Int × Unit)) → (Option ((Int × Unit) × Unit)))) : (((Unit × I2) → (Option ((Int × Unit) × Unit))) → ((Unit × I2) → (Option ((Int × Unit) × Unit)))) :=
  (fun (x3 : ((Unit × I2) → (Option ((Int × Unit) × Unit)))) => (fun (x4 : (Unit × I2)) => (lt (x4.2.1 != (0 : Int)) fun (x5 : Bool) =>
  (if (x5 = Bool.true) then
  (shr (d94_K3 x3) (fun (x6 : ((Unit × I2) → (Option ((Int × Unit) × Unit)))) => (lt (x4.2.1 == (Neg.neg (1 : Int))) fun (x7 : Bool) =>
  (if (x7 = Bool.true) then
  (Option.some (((1 : Int), ()), ()))
  else (if ((Bool.not (x4.2.1 == (0 : Int))) = Bool.true) then
  (x6 ((), ((Int.tmod x4.2.2.1 x4.2.1), (x4.2.1, ()))))
  else (Option.none))))))
  else (x2 ((), (x4.2.2.1, ())))))))
def d94 : (Nat → (I2 → (Option ((Int × Unit) × Unit)))) :=
  (fun (x0 : Nat) => (fun (x1 : I2) => (shr d94_K2 (fun (x2 : ((Unit × (Int × Unit)) → (Option ((Int × Unit) × Unit)))) => (loopN (d94_L4 x2) x0 ((), (x1.2.1, (x1.1, ()))))))))
theorem k94 : c_fn Tryz.prog ⟨[], ks0⟩ Tryz.f94 s94 h94 = some d94 := by kernel_rfl
/-- bulkhead/num.Lcm[int] -/
def s67 : Sig := ⟨[((.sl 3 (.int .i64)), .val), ((.int .i64), .val)], [((.int .i64), .val), (.bool, .val)]⟩
 def h67 : Hint := (.seq .leaf
   (.scope (.seq .leaf
   (.seq .leaf
   (.seq (.block ⟨[], []⟩ true
     (.loop ⟨[], [((6, 0), (.val (.int .i64))), ((1, 0), (.val (.int .i64))), ((0, 0), (.val (.sl 3 (.int .i64))))]⟩
       (.block ⟨[], []⟩ false
         (.seq (.seq .leaf
         (.block ⟨[], [((6, 0), (.val (.int .i64))), ((1, 0), (.val (.int .i64))), ((0, 0), (.val (.sl 3 (.int .i64))))]⟩ true
           (.loop ⟨[], [((14, 0), (.val (.int .i64))), ((12, 0), (.val (.sl 3 (.int .i64)))), ((6, 0), (.val (.int .i64))), ((1, 0), (.val (.int .i64))), ((0, 0), (.val (.sl 3 (.int .i64)))), ((13, 0), (.val (.int .i64)))]⟩
             (.seq .leaf
             (.seq (.cond none
               .leaf
               .leaf)
             (.seq (.block ⟨[], [((12, 0), (.val (.sl 3 (.int .i64)))), ((6, 0), (.val (.int .i64))), ((1, 0), (.val (.int .i64))), ((0, 0), (.val (.sl 3 (.int .i64)))), ((13, 0), (.val (.int .i64))), ((14, 0), (.val (.int .i64)))]⟩ true
               (.seq .leaf
               (.seq .leaf
               (.cond none
                 .leaf
                 .leaf))))
             .leaf))))))
         (.seq (.seq .leaf
         (.block ⟨[], [((6, 0), (.val (.int .i64))), ((1, 0), (.val (.int .i64)))]⟩ true
           (.loop ⟨[], [((23, 0), (.val (.int .i64))), ((6, 0), (.val (.int .i64))), ((1, 0), (.val (.int .i64))), ((21, 0), (.val (.sl 3 (.int .i64)))), ((22, 0), (.val (.int .i64)))]⟩
             (.seq .leaf
             (.seq (.cond none
               .leaf
               .leaf)
             (.seq (.block ⟨[], [((6, 0), (.val (.int .i64))), ((1, 0), (.val (.int .i64))), ((21, 0), (.val (.sl 3 (.int .i64)))), ((22, 0), (.val (.int .i64))), ((23, 0), (.val (.int .i64)))]⟩ true
               (.seq .leaf
               (.seq .leaf
               (.seq (.seq .leaf
               (.cond none
                 .leaf
                 .leaf))
               .leaf))))
             .leaf))))))
         (.seq (.seq .leaf
         (.cond none
           .leaf
           .leaf))
         (.seq .leaf
         .leaf)))))))
   (.seq .leaf
   .leaf))))))
def d67_K1  : ((Unit × Unit) → (Option ((Int × (Bool × Unit)) × Unit))) :=
  (fun (x2 : (Unit × Unit)) => (Option.some (((0 : Int), (Bool.false, ())), ())))
def d67_K2 (x2 : ((Unit × Unit) → (Option ((Int × (Bool × Unit)) × Unit)))) : ((Unit × I2) → (Option ((Int × (Bool × Unit)) × Unit))) :=
  (fun (x7 : (Unit × I2)) => (lt (Decidable.decide (x7.2.1 > x7.2.2.1)) fun (x8 : Bool) =>
  (if (x8 = Bool.true) then
  (x2 ((), ()))
  else (Option.some ((x7.2.1, (Bool.true, ())), ())))))
def d67_K3 (x8 : ((Unit × (Int × (Int × (Int × ((List Int) × (Int × Unit)))))) → (Option ((Int × (Bool × Unit)) × Unit)))) : ((Unit × CH) → (Option ((Int × (Bool × Unit)) × Unit))) :=
  (fun (x11 : (Unit × CH)) => (x8 ((), ((Go.IntKind.wrap Go.IntKind.i64 (x11.2.2.2.2.2.1 + (1 : Int))), (x11.2.1, (x11.2.2.1, (x11.2.2.2.1, (x11.2.2.2.2.1, ()))))))))
def d67_L4 (x0 : Nat) (x2 : ((Unit × Unit) → (Option ((Int × (Bool × Unit)) × Unit)))) (x7 : ((Unit × I2) → (Option ((Int × (Bool × Unit)) × Unit)))) : (((Unit × (Int × (Int × (Int × ((List Int) × (Int × Unit)))))) → (Option ((Int × (Bool × Unit)) × Unit))) → ((Unit × (Int × (Int × (Int × ((List Int) × (Int × Unit)))))) → (Option ((Int × (Bool × Unit)) × Unit)))) :=
  (fun (x8 : ((Unit × (Int × (Int × (Int × ((List Int) × (Int × Unit)))))) → (Option ((Int × (Bool × Unit)) × Unit)))) => (fun (x9 : (Unit × (Int × (Int × (Int × ((List Int) × (Int × Unit))))))) => (lt (Decidable.decide (x9.2.1 < x9.2.2.2.2.2.1)) fun (x10 : Bool) =>
  (if (x10 = Bool.true) then
  (shr (d67_K3 x8) (fun (x11 : ((Unit × CH) → (Option ((Int × (Bool × Unit)) × Unit)))) => (if (((Decidable.decide ((0 : Int) ≤ x9.2.1)) && (Decidable.decide (x9.2.1 < (((List.length x9.2.2.2.2.1) : Nat) : Int)))) = Bool.true) then
  (lt (List.getD x9.2.2.2.2.1 (Int.toNat x9.2.1) (0 : Int)) fun (x12 : Int) =>
  (Option.bind (d94 x0 (x9.2.2.1, (x12, ()))) fun (x13 : ((Int × Unit) × Unit)) =>
  (if ((Bool.not (x13.1.1 == (0 : Int))) = Bool.true) then
  (lt (Go.IntKind.wrap Go.IntKind.i64 (Int.tdiv x12 x13.1.1)) fun (x14 : Int) =>
  (if ((Bool.not (x9.2.2.1 == (0 : Int))) = Bool.true) then
  (lt (Go.IntKind.wrap Go.IntKind.i64 (Int.tdiv x9.2.2.2.1 x9.2.2.1)) fun (x15 : Int) =>
  (lt (Decidable.decide (x14 > x15)) fun (x16 : Bool) =>
  (if (x16 = Bool.true) then
  (x2 ((), ()))
  else (x11 ((), ((Go.IntKind.wrap Go.IntKind.i64 (x9.2.2.1 * x14)), (x9.2.2.2.1, (x9.2.2.2.2.1, (x9.2.2.2.2.2.1, (x9.2.1, ()))))))))))
  else (Option.none)))
  else (Option.none))))
  else (Option.none))))
  else (x7 ((), (x9.2.2.1, (x9.2.2.2.1, ()))))))))
def d67_K5 (x0 : Nat) (x2 : ((Unit × Unit) → (Option ((Int × (Bool × Unit)) × Unit)))) : ((Unit × (Int × (Int × ((List Int) × Unit)))) → (Option ((Int × (Bool × Unit)) × Unit))) :=
  (fun (x6 : (Unit × (Int × (Int × ((List Int) × Unit))))) => (shr (d67_K2 x2) (fun (x7 : ((Unit × I2) → (Option ((Int × (Bool × Unit)) × Unit)))) => (loopN (d67_L4 x0 x2 x7) x0 ((), ((0 : Int), (x6.2.1, (x6.2.2.1, (x6.2.2.2.1, ((((List.length x6.2.2.2.1) : Nat) : Int), ()))))))))))
def d67_K6 (x7 : ((Unit × (Int × ((List Int) × (Int × (Int × ((List Int) × (Int × Unit))))))) → (Option ((Int × (Bool × Unit)) × Unit)))) : ((Unit × ((List Int) × CH)) → (Option ((Int × (Bool × Unit)) × Unit))) :=
  (fun (x10 : (Unit × ((List Int) × CH))) => (x7 ((), ((Go.IntKind.wrap Go.IntKind.i64 (x10.2.2.2.2.2.2.1 + (1 : Int))), (x10.2.1, (x10.2.2.1, (x10.2.2.2.1, (x10.2.2.2.2.1, (x10.2.2.2.2.2.1, ())))))))))
def d67_L7 (x2 : ((Unit × Unit) → (Option ((Int × (Bool × Unit)) × Unit)))) (x6 : ((Unit × (Int × (Int × ((List Int) × Unit)))) → (Option ((Int × (Bool × Unit)) × Unit)))) : (((Unit × (Int × ((List Int) × (Int × (Int × ((List Int) × (Int × Unit))))))) → (Option ((Int × (Bool × Unit)) × Unit))) → ((Unit × (Int × ((List Int) × (Int × (Int × ((List Int) × (Int × Unit))))))) → (Option ((Int × (Bool × Unit)) × Unit)))) :=
  (fun (x7 : ((Unit × (Int × ((List Int) × (Int × (Int × ((List Int) × (Int × Unit))))))) → (Option ((Int × (Bool × Unit)) × Unit)))) => (fun (x8 : (Unit × (Int × ((List Int) × (Int × (Int × ((List Int) × (Int × Unit)))))))) => (lt (Decidable.decide (x8.2.1 < x8.2.2.2.2.2.2.1)) fun (x9 : Bool) =>
  (if (x9 = Bool.true) then
  (shr (d67_K6 x7) (fun (x10 : ((Unit × ((List Int) × CH)) → (Option ((Int × (Bool × Unit)) × Unit)))) => (if (((Decidable.decide ((0 : Int) ≤ x8.2.1)) && (Decidable.decide (x8.2.1 < (((List.length x8.2.2.1) : Nat) : Int)))) = Bool.true) then
  (lt (List.getD x8.2.2.1 (Int.toNat x8.2.1) (0 : Int)) fun (x11 : Int) =>
  (lt (Decidable.decide (x11 < (1 : Int))) fun (x12 : Bool) =>
  (if (x12 = Bool.true) then
  (x2 ((), ()))
  else (x10 ((), (x8.2.2.1, (x8.2.2.2.1, (x8.2.2.2.2.1, (x8.2.2.2.2.2.1, (x8.2.2.2.2.2.2.1, (x8.2.1, ())))))))))))
  else (Option.none))))
  else (x6 ((), (x8.2.2.2.1, (x8.2.2.2.2.1, (x8.2.2.2.2.2.1, ())))))))))
def d67_L8 (x0 : Nat) (x2 : ((Unit × Unit) → (Option ((Int × (Bool × Unit)) × Unit)))) : (((Unit × (Int × (Int × ((List Int) × Unit)))) → (Option ((Int × (Bool × Unit)) × Unit))) → ((Unit × (Int × (Int × ((List Int) × Unit)))) → (Option ((Int × (Bool × Unit)) × Unit)))) :=
  (fun (x3 : ((Unit × (Int × (Int × ((List Int) × Unit)))) → (Option ((Int × (Bool × Unit)) × Unit)))) => (fun (x4 : (Unit × (Int × (Int × ((List Int) × Unit))))) => (shr (fun (x5 : (Unit × Unit)) => (Option.none)) (fun (x5 : ((Unit × Unit) → (Option ((Int × (Bool × Unit)) × Unit)))) => (shr (d67_K5 x0 x2) (fun (x6 : ((Unit × (Int × (Int × ((List Int) × Unit)))) → (Option ((Int × (Bool × Unit)) × Unit)))) => (loopN (d67_L7 x2 x6) x0 ((), ((0 : Int), (x4.2.2.2.1, (x4.2.1, (x4.2.2.1, (x4.2.2.2.1, ((((List.length x4.2.2.2.1) : Nat) : Int), ()))))))))))))))
def d67 : (Nat → (((List Int) × (Int × Unit)) → (Option ((Int × (Bool × Unit)) × Unit)))) :=
  (fun (x0 : Nat) => (fun (x1 : ((List Int) × (Int × Unit))) => (shr d67_K1 (fun (x2 : ((Unit × Unit) → (Option ((Int × (Bool × Unit)) × Unit)))) => (loopN (d67_L8 x0 x2) x0 ((), ((1 : Int), (x1.2.1, (x1.1, ())))))))))
theorem k67 : c_fn Tryz.prog ⟨[(94, ⟨s94, d94⟩)], ks0⟩ Tryz.f67 s67 h67 = some d67 := by kernel_rfl
/-- bulkhead/check.hyper -/
def s42 : Sig := ⟨[((.sl 73 kSV), .val)], [((.int .i64), .val), ((.ifc 66 (.ptr 70 kI2)), (.own (.ow (.ow .sh))))]⟩
 def h42 : Hint := (.seq .leaf
   (.seq (.seq .leaf
   (.seq .leaf
   (.cond none
     (.seq .leaf
     .leaf)
     .leaf)))
   (.seq .leaf
   (.seq (.seq .leaf
   (.block ⟨[((.sl 3 (.int .i64)), (.ow .sh), (5, 0))], [((5, 0), (.own 0))]⟩ true
     (.loop ⟨[((.sl 3 (.int .i64)), (.ow .sh), (5, 0))], [((23, 0), (.val (.int .i64))), ((5, 0), (.own 0)), ((21, 0), (.val (.sl 73 kSV))), ((22, 0), (.val (.int .i64)))]⟩
       (.seq .leaf
       (.seq (.cond none
         .leaf
         .leaf)
       (.seq (.block ⟨[((.sl 3 (.int .i64)), (.ow .sh), (5, 0))], [((5, 0), (.own 0)), ((21, 0), (.val (.sl 73 kSV))), ((22, 0), (.val (.int .i64))), ((23, 0), (.val (.int .i64)))]⟩ true
         (.seq .leaf
         .leaf))
       .leaf))))))
   (.seq .leaf
   (.seq (.seq .leaf
   (.cond none
     (.seq .leaf
     .leaf)
     .leaf))
   (.seq .leaf
   (.seq (.seq .leaf
   (.block ⟨[], [((8, 0), (.val (.int .i64))), ((10, 0), (.val (.int .i64)))]⟩ true
     (.loop ⟨[((.sl 3 (.int .i64)), (.ow .sh), (43, 0))], [((45, 0), (.val (.int .i64))), ((8, 0), (.val (.int .i64))), ((10, 0), (.val (.int .i64))), ((43, 0), (.own 0)), ((44, 0), (.val (.int .i64)))]⟩
       (.seq .leaf
       (.seq (.cond none
         .leaf
         .leaf)
       (.seq (.block ⟨[((.sl 3 (.int .i64)), (.ow .sh), (43, 0))], [((8, 0), (.val (.int .i64))), ((10, 0), (.val (.int .i64))), ((43, 0), (.own 0)), ((44, 0), (.val (.int .i64))), ((45, 0), (.val (.int .i64)))]⟩ true
         (.seq .leaf
         .leaf))
       .leaf))))))
   (.seq (.seq .leaf
   (.cond none
     (.seq .leaf
     .leaf)
     .leaf))
   (.seq .leaf
   .leaf))))))))))
def d42_K1  : ((Unit × I2) → (Option ((Int × ((Option I2) × Unit)) × Unit))) :=
  (fun (x8 : (Unit × I2)) => (lt (Decidable.decide (x8.2.2.1 > (65536 : Int))) fun (x9 : Bool) =>
  (if (x9 = Bool.true) then
  (Option.some (((0 : Int), ((Option.some ((103 : Int), ((0 : Int), ()))), ())), ()))
  else (Option.some ((x8.2.1, ((Option.none), ())), ())))))
def d42_K2 (x9 : ((((List Int) × Unit) × SV) → (Option ((Int × ((Option I2) × Unit)) × Unit)))) : ((((List Int) × Unit) × SV) → (Option ((Int × ((Option I2) × Unit)) × Unit))) :=
  (fun (x12 : (((List Int) × Unit) × SV)) => (x9 ((x12.1.1, ()), ((Go.IntKind.wrap Go.IntKind.i64 (x12.2.2.2.2.1 + (1 : Int))), (x12.2.1, (x12.2.2.1, (x12.2.2.2.1, ())))))))
def d42_L3 (x8 : ((Unit × I2) → (Option ((Int × ((Option I2) × Unit)) × Unit)))) : (((((List Int) × Unit) × SV) → (Option ((Int × ((Option I2) × Unit)) × Unit))) → ((((List Int) × Unit) × SV) → (Option ((Int × ((Option I2) × Unit)) × Unit)))) :=
  (fun (x9 : ((((List Int) × Unit) × SV) → (Option ((Int × ((Option I2) × Unit)) × Unit)))) => (fun (x10 : (((List Int) × Unit) × SV)) => (lt (Decidable.decide (x10.2.1 < x10.2.2.2.2.1)) fun (x11 : Bool) =>
  (if (x11 = Bool.true) then
  (shr (d42_K2 x9) (fun (x12 : ((((List Int) × Unit) × SV) → (Option ((Int × ((Option I2) × Unit)) × Unit)))) => (if (((Decidable.decide ((0 : Int) ≤ x10.2.1)) && (Decidable.decide (x10.2.1 < (((List.length x10.1.1) : Nat) : Int)))) = Bool.true) then
  (if (((Decidable.decide ((Int.toNat x10.2.1) < (List.length x10.1.1))) && Bool.true) = Bool.true) then
  (lt (List.getD x10.1.1 (Int.toNat x10.2.1) (0 : Int)) fun (x13 : Int) =>
  (lt (Go.IntKind.wrap Go.IntKind.i64 ((2 : Int) * x10.2.2.1)) fun (x14 : Int) =>
  (if ((Bool.not (x13 == (0 : Int))) = Bool.true) then
  (x12 ((x10.1.1, ()), (x10.2.2.1, ((Go.IntKind.wrap Go.IntKind.i64 (x10.2.2.2.1 + (Go.IntKind.wrap Go.IntKind.i64 (Int.tdiv x14 x13)))), (x10.2.2.2.2.1, (x10.2.1, ()))))))
  else (Option.none))))
  else (Option.none))
  else (Option.none))))
  else (x8 ((), (x10.2.2.1, (x10.2.2.2.1, ()))))))))
def d42_K4 (x0 : Nat) : ((((List Int) × Unit) × Unit) → (Option ((Int × ((Option I2) × Unit)) × Unit))) :=
  (fun (x5 : (((List Int) × Unit) × Unit)) => (Option.bind (d67 x0 (x5.1.1, ((1048576 : Int), ()))) fun (x6 : ((Int × (Bool × Unit)) × Unit)) =>
  (lt (Bool.not x6.1.2.1) fun (x7 : Bool) =>
  (if (x7 = Bool.true) then
  (Option.some (((0 : Int), ((Option.some ((102 : Int), ((0 : Int), ()))), ())), ()))
  else (shr d42_K1 (fun (x8 : ((Unit × I2) → (Option ((Int × ((Option I2) × Unit)) × Unit)))) => (loopN (d42_L3 x8) x0 ((x5.1.1, ()), ((0 : Int), (x6.1.1, ((0 : Int), ((((List.length x5.1.1) : Nat) : Int), ()))))))))))))
def d42_K5 (x6 : ((((List Int) × Unit) × (Int × ((List SV) × (Int × Unit)))) → (Option ((Int × ((Option I2) × Unit)) × Unit)))) : ((((List Int) × Unit) × ((List SV) × I2)) → (Option ((Int × ((Option I2) × Unit)) × Unit))) :=
  (fun (x9 : (((List Int) × Unit) × ((List SV) × I2))) => (x6 ((x9.1.1, ()), ((Go.IntKind.wrap Go.IntKind.i64 (x9.2.2.2.1 + (1 : Int))), (x9.2.1, (x9.2.2.1, ()))))))
def d42_L6 (x5 : ((((List Int) × Unit) × Unit) → (Option ((Int × ((Option I2) × Unit)) × Unit)))) : (((((List Int) × Unit) × (Int × ((List SV) × (Int × Unit)))) → (Option ((Int × ((Option I2) × Unit)) × Unit))) → ((((List Int) × Unit) × (Int × ((List SV) × (Int × Unit)))) → (Option ((Int × ((Option I2) × Unit)) × Unit)))) :=
  (fun (x6 : ((((List Int) × Unit) × (Int × ((List SV) × (Int × Unit)))) → (Option ((Int × ((Option I2) × Unit)) × Unit)))) => (fun (x7 : (((List Int) × Unit) × (Int × ((List SV) × (Int × Unit))))) => (lt (Decidable.decide (x7.2.1 < x7.2.2.2.1)) fun (x8 : Bool) =>
  (if (x8 = Bool.true) then
  (shr (d42_K5 x6) (fun (x9 : ((((List Int) × Unit) × ((List SV) × I2)) → (Option ((Int × ((Option I2) × Unit)) × Unit)))) => (if (((Decidable.decide ((0 : Int) ≤ x7.2.1)) && (Decidable.decide (x7.2.1 < (((List.length x7.2.2.1) : Nat) : Int)))) = Bool.true) then
  (lt (List.getD x7.2.2.1 (Int.toNat x7.2.1) ((0 : Int), ((0 : Int), ((0 : Int), ((0 : Int), ()))))) fun (x10 : SV) =>
  (lt (x10.1 :: ([] : List Int)) fun (x11 : (List Int)) =>
  (if ((Go.Lift.appFits (List.length x7.1.1) (List.length x11) (8 : Nat)) = Bool.true) then
  (x9 (((x7.1.1 ++ x11), ()), (x7.2.2.1, (x7.2.2.2.1, (x7.2.1, ())))))
  else (Option.none))))
  else (Option.none))))
  else (x5 ((x7.1.1, ()), ()))))))
def d42 : (Nat → (((List SV) × Unit) → (Option ((Int × ((Option I2) × Unit)) × Unit)))) :=
  (fun (x0 : Nat) => (fun (x1 : ((List SV) × Unit)) => (Option.bind (d66 x0 (x1.1, ())) fun (x2 : (((Option I2) × Unit) × Unit)) =>
  (lt (Bool.not (Option.isNone x2.1.1)) fun (x3 : Bool) =>
  (if (x3 = Bool.true) then
  (Option.some (((0 : Int), (x2.1.1, ())), ()))
  else (lt (((List.length x1.1) : Nat) : Int) fun (x4 : Int) =>
  (if (((((Decidable.decide ((0 : Int) ≤ (0 : Int))) && (Decidable.decide ((0 : Int) ≤ x4))) && (Decidable.decide (((((8 : Nat) : Nat) : Int) * x4) ≤ (281474976710656 : Int)))) && (Decidable.decide (x4 ≤ (9223372036854775807 : Int)))) = Bool.true) then
  (shr (d42_K4 x0) (fun (x5 : ((((List Int) × Unit) × Unit) → (Option ((Int × ((Option I2) × Unit)) × Unit)))) => (loopN (d42_L6 x5) x0 (((List.replicate (Int.toNat (0 : Int)) (0 : Int)), ()), ((0 : Int), (x1.1, ((((List.length x1.1) : Nat) : Int), ())))))))
  else (Option.none))))))))
theorem k42 : c_fn Tryz.prog ⟨[(66, ⟨s66, d66⟩), (67, ⟨s67, d67⟩)], ks0⟩ Tryz.f42 s42 h42 = some d42 := by kernel_rfl
/-- bulkhead/check.parts -/
def s43 : Sig := ⟨[], [((.sl 120 (.pair (.int .i64) (.pair .fnv .unit))), (.own (.ow .sh)))]⟩
 def h43 : Hint := (.seq .leaf
   (.seq .leaf
   .leaf))
def d43 : (Nat → (Unit → (Option (((List (Int × ((Option Nat) × Unit))) × Unit) × Unit)))) :=
  (fun (x0 : Nat) => (fun (x1 : Unit) => (Option.some (((((110 : Int), ((Option.some 68), ())) :: (((104 : Int), ((Option.some 69), ())) :: (((105 : Int), ((Option.some 70), ())) :: (((106 : Int), ((Option.some 74), ())) :: (((106 : Int), ((Option.some 77), ())) :: (((109 : Int), ((Option.some 80), ())) :: (((109 : Int), ((Option.some 83), ())) :: ([] : List (Int × ((Option Nat) × Unit)))))))))), ()), ()))))
theorem k43 : c_fn Tryz.prog ⟨[(68, ⟨s68, d68⟩), (69, ⟨s69, d69⟩), (70, ⟨s70, d70⟩), (74, ⟨s74, d74⟩), (77, ⟨s77, d77⟩), (80, ⟨s80, d80⟩), (83, ⟨s83, d83⟩)], ks0⟩ Tryz.f43 s43 h43 = some d43 := by kernel_rfl
/-- bulkhead/check.port -/
def s44 : Sig := ⟨[((.pair (.int .i64) (.pair (.int .i64) (.pair .bool (.pair (.int .i64) kI2)))), .val), ((.int .i64), .val)], [(.bool, .val)]⟩
 def h44 : Hint := (.seq .leaf
   (.seq .leaf
   (.seq (.block ⟨[((.ptr 42 (.pair (.int .i64) (.pair (.int .i64) (.pair .bool (.pair (.int .i64) kI2))))), (.ow .sh), (2, 0))], [((2, 0), (.own 0)), ((1, 0), (.val (.int .i64))), ((6, 0), (.val .bool)), ((5, 0), (.val .bool))]⟩ true
     (.seq .leaf
     (.cond (some ⟨[((.ptr 42 (.pair (.int .i64) (.pair (.int .i64) (.pair .bool (.pair (.int .i64) kI2))))), (.ow .sh), (2, 0))], [((2, 0), (.own 0)), ((1, 0), (.val (.int .i64))), ((6, 0), (.val .bool)), ((5, 0), (.val .bool))]⟩)
       .leaf
       (.seq .leaf
       (.cond (some ⟨[((.ptr 42 (.pair (.int .i64) (.pair (.int .i64) (.pair .bool (.pair (.int .i64) kI2))))), (.ow .sh), (2, 0))], [((2, 0), (.own 0)), ((1, 0), (.val (.int .i64))), ((6, 0), (.val .bool)), ((5, 0), (.val .bool))]⟩)
         .leaf
         (.seq .leaf
         (.cond none
           (.seq .leaf
           .leaf)
           .leaf)))))))
   (.seq .leaf
   .leaf))))
def d44_K1 (x0 : Nat) : ((((Int × (Int × (Bool × (Int × I2)))) × Unit) × (Int × (Bool × (Bool × Unit)))) → (Option ((Bool × Unit) × Unit))) :=
  (fun (x4 : (((Int × (Int × (Bool × (Int × I2)))) × Unit) × (Int × (Bool × (Bool × Unit))))) => (lt (if (x4.2.2.2.1 = Bool.true) then
  x4.2.2.1
  else Bool.false) fun (x5 : Bool) =>
  (Option.bind (if (((x5 == Bool.true) && Bool.true) = Bool.true) then
  (d63 x0 (x4.1.1.1, ((1 : Int), (x4.2.1, ()))))
  else (Option.some ((Bool.false, ()), ()))) fun (x6 : ((Bool × Unit) × Unit)) =>
  (lt (if (x5 = Bool.true) then
  x6.1.1
  else Bool.false) fun (x7 : Bool) =>
  (Option.bind (if (((x7 == Bool.true) && Bool.true) = Bool.true) then
  (d63 x0 (x4.1.1.2.2.2.1, ((1 : Int), ((16 : Int), ()))))
  else (Option.some ((Bool.false, ()), ()))) fun (x8 : ((Bool × Unit) × Unit)) =>
  (Option.some (((if (x7 = Bool.true) then
  x8.1.1
  else Bool.false), ()), ())))))))
def d44_K2 (x4 : ((((Int × (Int × (Bool × (Int × I2)))) × Unit) × (Int × (Bool × (Bool × Unit)))) → (Option ((Bool × Unit) × Unit)))) : ((((Int × (Int × (Bool × (Int × I2)))) × Unit) × (Int × (Bool × (Bool × Unit)))) → (Option ((Bool × Unit) × Unit))) :=
  (fun (x6 : (((Int × (Int × (Bool × (Int × I2)))) × Unit) × (Int × (Bool × (Bool × Unit))))) => (x4 ((x6.1.1, ()), (x6.2.1, (x6.2.2.1, (x6.2.2.2.1, ()))))))
def d44_K3 (x6 : ((((Int × (Int × (Bool × (Int × I2)))) × Unit) × (Int × (Bool × (Bool × Unit)))) → (Option ((Bool × Unit) × Unit)))) : ((((Int × (Int × (Bool × (Int × I2)))) × Unit) × (Int × (Bool × (Bool × Unit)))) → (Option ((Bool × Unit) × Unit))) :=
  (fun (x10 : (((Int × (Int × (Bool × (Int × I2)))) × Unit) × (Int × (Bool × (Bool × Unit))))) => (x6 ((x10.1.1, ()), (x10.2.1, (x10.2.2.1, (x10.2.2.2.1, ()))))))
def d44 : (Nat → (((Int × (Int × (Bool × (Int × I2)))) × (Int × Unit)) → (Option ((Bool × Unit) × Unit)))) :=
  (fun (x0 : Nat) => (fun (x1 : ((Int × (Int × (Bool × (Int × I2)))) × (Int × Unit))) => (lt (x1.1.2.2.2.2.1 == (0 : Int)) fun (x2 : Bool) =>
  (lt (x1.1.2.2.2.2.2.1 == (0 : Int)) fun (x3 : Bool) =>
  (shr (d44_K1 x0) (fun (x4 : ((((Int × (Int × (Bool × (Int × I2)))) × Unit) × (Int × (Bool × (Bool × Unit)))) → (Option ((Bool × Unit) × Unit)))) => (lt (x1.1.2.1 == (1 : Int)) fun (x5 : Bool) =>
  (shr (d44_K2 x4) (fun (x6 : ((((Int × (Int × (Bool × (Int × I2)))) × Unit) × (Int × (Bool × (Bool × Unit)))) → (Option ((Bool × Unit) × Unit)))) => (if (x5 = Bool.true) then
  (Option.bind (d63 x0 (x1.1.2.2.2.2.1, ((1 : Int), ((64 : Int), ())))) fun (x7 : ((Bool × Unit) × Unit)) =>
  (x6 ((x1.1, ()), (x1.2.1, (x3, (x7.1.1, ()))))))
  else (lt (x1.1.2.1 == (0 : Int)) fun (x7 : Bool) =>
  (lt (Bool.not x1.1.2.2.1) fun (x8 : Bool) =>
  (lt (if (x7 = Bool.true) then
  x8
  else Bool.false) fun (x9 : Bool) =>
  (shr (d44_K3 x6) (fun (x10 : ((((Int × (Int × (Bool × (Int × I2)))) × Unit) × (Int × (Bool × (Bool × Unit)))) → (Option ((Bool × Unit) × Unit)))) => (if (x9 = Bool.true) then
  (Option.bind (d63 x0 (x1.1.2.2.2.2.2.1, ((0 : Int), ((1099511627775 : Int), ())))) fun (x11 : ((Bool × Unit) × Unit)) =>
  (x10 ((x1.1, ()), (x1.2.1, (x11.1.1, (x2, ()))))))
  else (lt (x1.1.2.1 != (0 : Int)) fun (x11 : Bool) =>
  (if (x11 = Bool.true) then
  (Option.some ((Bool.false, ()), ()))
  else (x10 ((x1.1, ()), (x1.2.1, (x3, (x2, ())))))))))))))))))))))))
theorem k44 : c_fn Tryz.prog ⟨[(63, ⟨s63, d63⟩)], ks0⟩ Tryz.f44 s44 h44 = some d44 := by kernel_rfl
/-- (*bulkhead/check.joints).join -/
def s84 : Sig := ⟨[((.ptr 92 (.pair (.sl 42 (.pair (.int .i64) (.pair (.int .i64) (.pair .bool (.pair (.int .i64) kI2))))) (.pair (.arr 65 .bool) (.pair (.int .i64) .unit)))), (.mut (.ow .sh))), ((.int .i64), .val), ((.int .i64), .val), (.bool, .val)], [(.bool, .val)]⟩
 def h84 : Hint := (.seq .leaf
   (.seq (.seq .leaf
   (.cond none
     (.seq .leaf
     .leaf)
     .leaf))
   (.seq .leaf
   (.seq (.seq .leaf
   (.cond none
     (.seq .leaf
     .leaf)
     .leaf))
   (.seq .leaf
   (.seq .leaf
   .leaf))))))
def d84 : (Nat → ((((List (Int × (Int × (Bool × (Int × I2))))) × ((List Bool) × (Int × Unit))) × (Int × (Int × (Bool × Unit)))) → (Option ((Bool × Unit) × (((List (Int × (Int × (Bool × (Int × I2))))) × ((List Bool) × (Int × Unit))) × Unit))))) :=
  (fun (x0 : Nat) => (fun (x1 : (((List (Int × (Int × (Bool × (Int × I2))))) × ((List Bool) × (Int × Unit))) × (Int × (Int × (Bool × Unit))))) => (lt (((List.length x1.1.1) : Nat) : Int) fun (x2 : Int) =>
  (Option.bind (d63 x0 (x1.2.1, ((1 : Int), (x2, ())))) fun (x3 : ((Bool × Unit) × Unit)) =>
  (lt (Bool.not x3.1.1) fun (x4 : Bool) =>
  (if (((Bool.not ((x4 == Bool.false) && Bool.true)) || ((Decidable.decide ((0 : Int) ≤ x1.2.1)) && (Decidable.decide (x1.2.1 < (((65 : Nat) : Nat) : Int))))) = Bool.true) then
  (if (((Bool.not ((x4 == Bool.false) && Bool.true)) || ((Decidable.decide ((Int.toNat x1.2.1) < (List.length x1.1.2.1))) && Bool.true)) = Bool.true) then
  (lt (List.getD x1.1.2.1 (Int.toNat x1.2.1) Bool.false) fun (x5 : Bool) =>
  (lt (if (x4 = Bool.true) then
  Bool.true
  else x5) fun (x6 : Bool) =>
  (if (x6 = Bool.true) then
  (Option.some ((Bool.false, ()), (x1.1, ())))
  else (lt (Go.IntKind.wrap Go.IntKind.i64 (x1.2.1 - (1 : Int))) fun (x7 : Int) =>
  (if (((Decidable.decide ((0 : Int) ≤ x7)) && (Decidable.decide (x7 < (((List.length x1.1.1) : Nat) : Int)))) = Bool.true) then
  (lt (List.getD x1.1.1 (Int.toNat x7) ((0 : Int), ((0 : Int), (Bool.false, ((0 : Int), ((0 : Int), ((0 : Int), ()))))))) fun (x8 : (Int × (Int × (Bool × (Int × I2))))) =>
  (lt (Bool.not (x8.2.2.1 == x1.2.2.2.1)) fun (x9 : Bool) =>
  (lt (x8.2.1 != x1.2.2.1) fun (x10 : Bool) =>
  (lt (if (x9 = Bool.true) then
  Bool.true
  else x10) fun (x11 : Bool) =>
  (lt (x1.1.2.2.1 != (0 : Int)) fun (x12 : Bool) =>
  (lt (x8.2.2.2.1 != x1.1.2.2.1) fun (x13 : Bool) =>
  (lt (if (x12 = Bool.true) then
  x13
  else Bool.false) fun (x14 : Bool) =>
  (lt (if (x11 = Bool.true) then
  Bool.true
  else x14) fun (x15 : Bool) =>
  (if (x15 = Bool.true) then
  (Option.some ((Bool.false, ()), (x1.1, ())))
  else (if (((Decidable.decide ((0 : Int) ≤ x1.2.1)) && (Decidable.decide (x1.2.1 < (((65 : Nat) : Nat) : Int)))) = Bool.true) then
  (if (((Decidable.decide ((Int.toNat x1.2.1) < (List.length x1.1.2.1))) && Bool.true) = Bool.true) then
  (Option.some ((Bool.true, ()), ((x1.1.1, ((List.set x1.1.2.1 (Int.toNat x1.2.1) Bool.true), (x8.2.2.2.1, x1.1.2.2.2))), ())))
  else (Option.none))
  else (Option.none)))))))))))
  else (Option.none))))))
  else (Option.none))
  else (Option.none)))))))
theorem k84 : c_fn Tryz.prog ⟨[(63, ⟨s63, d63⟩)], ks0⟩ Tryz.f84 s84 h84 = some d84 := by kernel_rfl
/-- (*bulkhead/check.joints).channel -/
def s45 : Sig := ⟨[((.ptr 92 (.pair (.sl 42 (.pair (.int .i64) (.pair (.int .i64) (.pair .bool (.pair (.int .i64) kI2))))) (.pair (.arr 65 .bool) (.pair (.int .i64) .unit)))), (.mut (.ow .sh))), (kCH, .val)], [(.bool, .val)]⟩
 def h45 : Hint := (.seq .leaf
   (.seq .leaf
   (.seq (.seq (.pre ⟨[((.ptr 92 (.pair (.sl 42 (.pair (.int .i64) (.pair (.int .i64) (.pair .bool (.pair (.int .i64) kI2))))) (.pair (.arr 65 .bool) (.pair (.int .i64) .unit)))), (.ow .sh), (0, 0)), ((.ptr 39 kCH), (.ow .sh), (3, 0))], [((0, 0), (.own 0)), ((3, 0), (.own 1))]⟩ .leaf)
   (.cond none
     (.seq .leaf
     .leaf)
     .leaf))
   (.seq (.seq .leaf
   (.block ⟨[((.ptr 92 (.pair (.sl 42 (.pair (.int .i64) (.pair (.int .i64) (.pair .bool (.pair (.int .i64) kI2))))) (.pair (.arr 65 .bool) (.pair (.int .i64) .unit)))), (.ow .sh), (0, 0)), ((.ptr 39 kCH), (.ow .sh), (3, 0))], [((0, 0), (.own 0)), ((3, 0), (.own 1))]⟩ true
     (.loop ⟨[((.ptr 92 (.pair (.sl 42 (.pair (.int .i64) (.pair (.int .i64) (.pair .bool (.pair (.int .i64) kI2))))) (.pair (.arr 65 .bool) (.pair (.int .i64) .unit)))), (.ow .sh), (0, 0)), ((.ptr 39 kCH), (.ow .sh), (3, 0))], [((0, 0), (.own 0)), ((42, 0), (.val (.int .i64))), ((3, 0), (.own 1)), ((40, 0), (.val (.sl 3 (.int .i64)))), ((41, 0), (.val (.int .i64)))]⟩
       (.seq .leaf
       (.seq (.cond none
         .leaf
         .leaf)
       (.seq (.block ⟨[((.ptr 92 (.pair (.sl 42 (.pair (.int .i64) (.pair (.int .i64) (.pair .bool (.pair (.int .i64) kI2))))) (.pair (.arr 65 .bool) (.pair (.int .i64) .unit)))), (.ow .sh), (0, 0)), ((.ptr 39 kCH), (.ow .sh), (3, 0))], [((0, 0), (.own 0)), ((3, 0), (.own 1)), ((40, 0), (.val (.sl 3 (.int .i64)))), ((41, 0), (.val (.int .i64))), ((42, 0), (.val (.int .i64)))]⟩ true
         (.seq .leaf
         (.seq .leaf
         (.cond none
           (.seq .leaf
           .leaf)
           .leaf))))
       .leaf))))))
   (.seq (.seq .leaf
   (.cond none
     (.seq .leaf
     .leaf)
     .leaf))
   (.seq .leaf
   .leaf))))))
def d45_K1 (x0 : Nat) : (((((List (Int × (Int × (Bool × (Int × I2))))) × ((List Bool) × (Int × Unit))) × (CH × Unit)) × Unit) → (Option ((Bool × Unit) × (((List (Int × (Int × (Bool × (Int × I2))))) × ((List Bool) × (Int × Unit))) × Unit)))) :=
  (fun (x15 : ((((List (Int × (Int × (Bool × (Int × I2))))) × ((List Bool) × (Int × Unit))) × (CH × Unit)) × Unit)) => (lt (x15.1.2.1.1 == (1 : Int)) fun (x16 : Bool) =>
  (lt (x15.1.2.1.2.1 != (0 : Int)) fun (x17 : Bool) =>
  (lt (if (x16 = Bool.true) then
  x17
  else Bool.false) fun (x18 : Bool) =>
  (if (x18 = Bool.true) then
  (Option.bind (d63 x0 (x15.1.2.1.2.2.2.2.1, ((1 : Int), ((1048576 : Int), ())))) fun (x19 : ((Bool × Unit) × Unit)) =>
  (lt (Go.IntKind.wrap Go.IntKind.i64 (x15.1.2.1.2.2.2.2.1 - (1 : Int))) fun (x20 : Int) =>
  (Option.bind (if (((x19.1.1 == Bool.true) && Bool.true) = Bool.true) then
  (d63 x0 (x15.1.2.1.2.2.2.1, ((0 : Int), (x20, ()))))
  else (Option.some ((Bool.false, ()), ()))) fun (x21 : ((Bool × Unit) × Unit)) =>
  (Option.some (((if (x19.1.1 = Bool.true) then
  x21.1.1
  else Bool.false), ()), (x15.1.1, ()))))))
  else (lt (x15.1.2.1.2.2.2.2.1 == (0 : Int)) fun (x19 : Bool) =>
  (lt (x15.1.2.1.2.2.2.1 == (0 : Int)) fun (x20 : Bool) =>
  (Option.some (((if (x19 = Bool.true) then
  x20
  else Bool.false), ()), (x15.1.1, ()))))))))))
def d45_K2 (x16 : (((((List (Int × (Int × (Bool × (Int × I2))))) × ((List Bool) × (Int × Unit))) × (CH × Unit)) × (Int × ((List Int) × (Int × Unit)))) → (Option ((Bool × Unit) × (((List (Int × (Int × (Bool × (Int × I2))))) × ((List Bool) × (Int × Unit))) × Unit))))) : (((((List (Int × (Int × (Bool × (Int × I2))))) × ((List Bool) × (Int × Unit))) × (CH × Unit)) × ((List Int) × I2)) → (Option ((Bool × Unit) × (((List (Int × (Int × (Bool × (Int × I2))))) × ((List Bool) × (Int × Unit))) × Unit)))) :=
  (fun (x19 : ((((List (Int × (Int × (Bool × (Int × I2))))) × ((List Bool) × (Int × Unit))) × (CH × Unit)) × ((List Int) × I2))) => (x16 ((x19.1.1, (x19.1.2.1, ())), ((Go.IntKind.wrap Go.IntKind.i64 (x19.2.2.2.1 + (1 : Int))), (x19.2.1, (x19.2.2.1, ()))))))
def d45_L3 (x0 : Nat) (x15 : (((((List (Int × (Int × (Bool × (Int × I2))))) × ((List Bool) × (Int × Unit))) × (CH × Unit)) × Unit) → (Option ((Bool × Unit) × (((List (Int × (Int × (Bool × (Int × I2))))) × ((List Bool) × (Int × Unit))) × Unit))))) : ((((((List (Int × (Int × (Bool × (Int × I2))))) × ((List Bool) × (Int × Unit))) × (CH × Unit)) × (Int × ((List Int) × (Int × Unit)))) → (Option ((Bool × Unit) × (((List (Int × (Int × (Bool × (Int × I2))))) × ((List Bool) × (Int × Unit))) × Unit)))) → (((((List (Int × (Int × (Bool × (Int × I2))))) × ((List Bool) × (Int × Unit))) × (CH × Unit)) × (Int × ((List Int) × (Int × Unit)))) → (Option ((Bool × Unit) × (((List (Int × (Int × (Bool × (Int × I2))))) × ((List Bool) × (Int × Unit))) × Unit))))) :=
  (fun (x16 : (((((List (Int × (Int × (Bool × (Int × I2))))) × ((List Bool) × (Int × Unit))) × (CH × Unit)) × (Int × ((List Int) × (Int × Unit)))) → (Option ((Bool × Unit) × (((List (Int × (Int × (Bool × (Int × I2))))) × ((List Bool) × (Int × Unit))) × Unit))))) => (fun (x17 : ((((List (Int × (Int × (Bool × (Int × I2))))) × ((List Bool) × (Int × Unit))) × (CH × Unit)) × (Int × ((List Int) × (Int × Unit))))) => (lt (Decidable.decide (x17.2.1 < x17.2.2.2.1)) fun (x18 : Bool) =>
  (if (x18 = Bool.true) then
  (shr (d45_K2 x16) (fun (x19 : (((((List (Int × (Int × (Bool × (Int × I2))))) × ((List Bool) × (Int × Unit))) × (CH × Unit)) × ((List Int) × I2)) → (Option ((Bool × Unit) × (((List (Int × (Int × (Bool × (Int × I2))))) × ((List Bool) × (Int × Unit))) × Unit))))) => (if (((Decidable.decide ((0 : Int) ≤ x17.2.1)) && (Decidable.decide (x17.2.1 < (((List.length x17.2.2.1) : Nat) : Int)))) = Bool.true) then
  (lt (List.getD x17.2.2.1 (Int.toNat x17.2.1) (0 : Int)) fun (x20 : Int) =>
  (lt (Decidable.decide (x17.2.1 > (0 : Int))) fun (x21 : Bool) =>
  (lt (Go.IntKind.wrap Go.IntKind.i64 (x17.2.1 - (1 : Int))) fun (x22 : Int) =>
  (if (((Bool.not ((x21 == Bool.true) && Bool.true)) || ((Decidable.decide ((0 : Int) ≤ x22)) && (Decidable.decide (x22 < (((List.length x17.1.2.1.2.2.1) : Nat) : Int))))) = Bool.true) then
  (lt (List.getD x17.1.2.1.2.2.1 (Int.toNat x22) (0 : Int)) fun (x23 : Int) =>
  (lt (Decidable.decide (x20 ≤ x23)) fun (x24 : Bool) =>
  (lt (if (x21 = Bool.true) then
  x24
  else Bool.false) fun (x25 : Bool) =>
  (Option.bind (if (((x25 == Bool.false) && Bool.true) = Bool.true) then
  (d84 x0 (x17.1.1, (x20, (x17.1.2.1.1, (Bool.false, ())))))
  else (Option.some ((Bool.false, ()), ((([] : List (Int × (Int × (Bool × (Int × I2))))), ((List.replicate (65 : Nat) Bool.false), ((0 : Int), ()))), ())))) fun (x26 : ((Bool × Unit) × (((List (Int × (Int × (Bool × (Int × I2))))) × ((List Bool) × (Int × Unit))) × Unit))) =>
  (lt (Bool.not x26.1.1) fun (x27 : Bool) =>
  (lt (if (x25 = Bool.true) then
  Bool.true
  else x27) fun (x28 : Bool) =>
  (if (x28 = Bool.true) then
  (Option.some ((Bool.false, ()), ((if (((x25 == Bool.false) && Bool.true) = Bool.true) then
  x26.2.1
  else x17.1.1), ())))
  else (x19 (((if (((x25 == Bool.false) && Bool.true) = Bool.true) then
  x26.2.1
  else x17.1.1), (x17.1.2.1, ())), (x17.2.2.1, (x17.2.2.2.1, (x17.2.1, ()))))))))))))
  else (Option.none)))))
  else (Option.none))))
  else (x15 ((x17.1.1, (x17.1.2.1, ())), ()))))))
def d45 : (Nat → ((((List (Int × (Int × (Bool × (Int × I2))))) × ((List Bool) × (Int × Unit))) × (CH × Unit)) → (Option ((Bool × Unit) × (((List (Int × (Int × (Bool × (Int × I2))))) × ((List Bool) × (Int × Unit))) × Unit))))) :=
  (fun (x0 : Nat) => (fun (x1 : (((List (Int × (Int × (Bool × (Int × I2))))) × ((List Bool) × (Int × Unit))) × (CH × Unit))) => (Option.bind (d63 x0 (x1.2.1.1, ((0 : Int), ((1 : Int), ())))) fun (x2 : ((Bool × Unit) × Unit)) =>
  (lt (Bool.not x2.1.1) fun (x3 : Bool) =>
  (lt (x1.2.1.2.1 == (0 : Int)) fun (x4 : Bool) =>
  (lt (((List.length x1.2.1.2.2.1) : Nat) : Int) fun (x5 : Int) =>
  (lt (x5 == (0 : Int)) fun (x6 : Bool) =>
  (lt (if (x4 = Bool.true) then
  x6
  else Bool.false) fun (x7 : Bool) =>
  (lt (if (x3 = Bool.true) then
  Bool.true
  else x7) fun (x8 : Bool) =>
  (lt (x1.2.1.2.1 != (0 : Int)) fun (x9 : Bool) =>
  (Option.bind (if (((x9 == Bool.true) && ((x8 == Bool.false) && Bool.true)) = Bool.true) then
  (d84 x0 ((x1.1.1, (x1.1.2.1, ((0 : Int), x1.1.2.2.2))), (x1.2.1.2.1, (x1.2.1.1, (Bool.true, ())))))
  else (Option.some ((Bool.false, ()), ((([] : List (Int × (Int × (Bool × (Int × I2))))), ((List.replicate (65 : Nat) Bool.false), ((0 : Int), ()))), ())))) fun (x10 : ((Bool × Unit) × (((List (Int × (Int × (Bool × (Int × I2))))) × ((List Bool) × (Int × Unit))) × Unit))) =>
  (lt (Bool.not x10.1.1) fun (x11 : Bool) =>
  (lt (if (x9 = Bool.true) then
  x11
  else Bool.false) fun (x12 : Bool) =>
  (lt (if (x8 = Bool.true) then
  Bool.true
  else x12) fun (x13 : Bool) =>
  (if (x13 = Bool.true) then
  (Option.some ((Bool.false, ()), ((if (((x9 == Bool.true) && ((x8 == Bool.false) && Bool.true)) = Bool.true) then
  x10.2.1
  else (x1.1.1, (x1.1.2.1, ((0 : Int), x1.1.2.2.2)))), ())))
  else (lt (((List.length x1.2.1.2.2.1) : Nat) : Int) fun (x14 : Int) =>
  (shr (d45_K1 x0) (fun (x15 : (((((List (Int × (Int × (Bool × (Int × I2))))) × ((List Bool) × (Int × Unit))) × (CH × Unit)) × Unit) → (Option ((Bool × Unit) × (((List (Int × (Int × (Bool × (Int × I2))))) × ((List Bool) × (Int × Unit))) × Unit))))) => (loopN (d45_L3 x0 x15) x0 (((if (((x9 == Bool.true) && ((x8 == Bool.false) && Bool.true)) = Bool.true) then
  x10.2.1
  else (x1.1.1, (x1.1.2.1, ((0 : Int), x1.1.2.2.2)))), (x1.2.1, ())), ((0 : Int), (x1.2.1.2.2.1, (x14, ())))))))))))))))))))))))
theorem k45 : c_fn Tryz.prog ⟨[(63, ⟨s63, d63⟩), (84, ⟨s84, d84⟩)], ks0⟩ Tryz.f45 s45 h45 = some d45 := by kernel_rfl
/-- bulkhead/check.check -/
def s28 : Sig := ⟨[((.pair (.sl 82 kPT) (.pair (.sl 42 (.pair (.int .i64) (.pair (.int .i64) (.pair .bool (.pair (.int .i64) kI2))))) (.pair (.sl 39 kCH) .unit))), .val)], [((.ifc 66 (.ptr 70 kI2)), (.own (.ow (.ow .sh))))]⟩
 def h28 : Hint := (.seq .leaf
   (.seq (.seq .leaf
   (.cond none
     (.seq .leaf
     .leaf)
     .leaf))
   (.seq .leaf
   (.seq (.seq .leaf
   (.block ⟨[((.ptr 26 (.pair (.sl 82 kPT) (.pair (.sl 42 (.pair (.int .i64) (.pair (.int .i64) (.pair .bool (.pair (.int .i64) kI2))))) (.pair (.sl 39 kCH) .unit)))), (.ow .sh), (1, 0)), ((.sl 73 kSV), (.ow .sh), (3, 0))], [((1, 0), (.own 0)), ((3, 0), (.own 1))]⟩ true
     (.loop ⟨[((.sl 73 kSV), (.ow .sh), (3, 0)), ((.ptr 26 (.pair (.sl 82 kPT) (.pair (.sl 42 (.pair (.int .i64) (.pair (.int .i64) (.pair .bool (.pair (.int .i64) kI2))))) (.pair (.sl 39 kCH) .unit)))), (.ow .sh), (1, 0))], [((39, 0), (.val (.int .i64))), ((3, 0), (.own 0)), ((37, 0), (.val (.sl 82 kPT))), ((1, 0), (.own 1)), ((38, 0), (.val (.int .i64)))]⟩
       (.seq .leaf
       (.seq (.cond none
         .leaf
         .leaf)
       (.seq (.block ⟨[((.sl 73 kSV), (.ow .sh), (3, 0)), ((.ptr 26 (.pair (.sl 82 kPT) (.pair (.sl 42 (.pair (.int .i64) (.pair (.int .i64) (.pair .bool (.pair (.int .i64) kI2))))) (.pair (.sl 39 kCH) .unit)))), (.ow .sh), (1, 0))], [((3, 0), (.own 0)), ((37, 0), (.val (.sl 82 kPT))), ((1, 0), (.own 1)), ((38, 0), (.val (.int .i64))), ((39, 0), (.val (.int .i64)))]⟩ true
         (.seq .leaf
         (.seq (.seq .leaf
         (.seq .leaf
         (.cond none
           (.seq .leaf
           .leaf)
           .leaf)))
         .leaf)))
       .leaf))))))
   (.seq (.seq .leaf
   (.seq .leaf
   (.cond none
     (.seq .leaf
     .leaf)
     .leaf)))
   (.seq (.seq .leaf
   (.block ⟨[((.ptr 26 (.pair (.sl 82 kPT) (.pair (.sl 42 (.pair (.int .i64) (.pair (.int .i64) (.pair .bool (.pair (.int .i64) kI2))))) (.pair (.sl 39 kCH) .unit)))), (.ow .sh), (1, 0))], [((1, 0), (.own 0))]⟩ true
     (.loop ⟨[((.ptr 26 (.pair (.sl 82 kPT) (.pair (.sl 42 (.pair (.int .i64) (.pair (.int .i64) (.pair .bool (.pair (.int .i64) kI2))))) (.pair (.sl 39 kCH) .unit)))), (.ow .sh), (1, 0))], [((69, 0), (.val (.int .i64))), ((67, 0), (.val (.sl 82 kPT))), ((1, 0), (.own 0)), ((68, 0), (.val (.int .i64)))]⟩
       (.seq .leaf
       (.seq (.cond none
         .leaf
         .leaf)
       (.seq (.block ⟨[((.ptr 26 (.pair (.sl 82 kPT) (.pair (.sl 42 (.pair (.int .i64) (.pair (.int .i64) (.pair .bool (.pair (.int .i64) kI2))))) (.pair (.sl 39 kCH) .unit)))), (.ow .sh), (1, 0))], [((67, 0), (.val (.sl 82 kPT))), ((1, 0), (.own 0)), ((68, 0), (.val (.int .i64))), ((69, 0), (.val (.int .i64)))]⟩ true
         (.seq .leaf
         (.seq .leaf
         (.seq .leaf
         (.cond none
           (.seq .leaf
           .leaf)
           .leaf)))))
       .leaf))))))
   (.seq (.seq .leaf
   (.block ⟨[((.ptr 26 (.pair (.sl 82 kPT) (.pair (.sl 42 (.pair (.int .i64) (.pair (.int .i64) (.pair .bool (.pair (.int .i64) kI2))))) (.pair (.sl 39 kCH) .unit)))), (.ow .sh), (1, 0))], [((1, 0), (.own 0))]⟩ true
     (.loop ⟨[((.ptr 26 (.pair (.sl 82 kPT) (.pair (.sl 42 (.pair (.int .i64) (.pair (.int .i64) (.pair .bool (.pair (.int .i64) kI2))))) (.pair (.sl 39 kCH) .unit)))), (.ow .sh), (1, 0))], [((86, 0), (.val (.int .i64))), ((1, 0), (.own 0)), ((84, 0), (.val (.sl 42 (.pair (.int .i64) (.pair (.int .i64) (.pair .bool (.pair (.int .i64) kI2))))))), ((85, 0), (.val (.int .i64)))]⟩
       (.seq .leaf
       (.seq (.cond none
         .leaf
         .leaf)
       (.seq (.block ⟨[((.ptr 26 (.pair (.sl 82 kPT) (.pair (.sl 42 (.pair (.int .i64) (.pair (.int .i64) (.pair .bool (.pair (.int .i64) kI2))))) (.pair (.sl 39 kCH) .unit)))), (.ow .sh), (1, 0))], [((1, 0), (.own 0)), ((84, 0), (.val (.sl 42 (.pair (.int .i64) (.pair (.int .i64) (.pair .bool (.pair (.int .i64) kI2))))))), ((85, 0), (.val (.int .i64))), ((86, 0), (.val (.int .i64)))]⟩ true
         (.seq .leaf
         (.seq .leaf
         (.cond none
           (.seq .leaf
           .leaf)
           .leaf))))
       .leaf))))))
   (.seq .leaf
   (.seq (.seq .leaf
   (.block ⟨[], []⟩ true
     (.loop ⟨[((.ptr 92 (.pair (.sl 42 (.pair (.int .i64) (.pair (.int .i64) (.pair .bool (.pair (.int .i64) kI2))))) (.pair (.arr 65 .bool) (.pair (.int .i64) .unit)))), (.ow .sh), (14, 0))], [((110, 0), (.val (.int .i64))), ((14, 0), (.own 0)), ((108, 0), (.val (.sl 39 kCH))), ((109, 0), (.val (.int .i64)))]⟩
       (.seq .leaf
       (.seq (.cond none
         .leaf
         .leaf)
       (.seq (.block ⟨[((.ptr 92 (.pair (.sl 42 (.pair (.int .i64) (.pair (.int .i64) (.pair .bool (.pair (.int .i64) kI2))))) (.pair (.arr 65 .bool) (.pair (.int .i64) .unit)))), (.ow .sh), (14, 0))], [((14, 0), (.own 0)), ((108, 0), (.val (.sl 39 kCH))), ((109, 0), (.val (.int .i64))), ((110, 0), (.val (.int .i64)))]⟩ true
         (.seq .leaf
         (.seq .leaf
         (.cond none
           (.seq .leaf
           .leaf)
           .leaf))))
       .leaf))))))
   (.seq .leaf
   .leaf))))))))))
def d28_K1  : ((Unit × Unit) → (Option (((Option I2) × Unit) × Unit))) :=
  (fun (x15 : (Unit × Unit)) => (Option.some (((Option.none), ()), ())))
def d28_K2 (x16 : (((((List (Int × (Int × (Bool × (Int × I2))))) × ((List Bool) × (Int × Unit))) × Unit) × (Int × ((List CH) × (Int × Unit)))) → (Option (((Option I2) × Unit) × Unit)))) : (((((List (Int × (Int × (Bool × (Int × I2))))) × ((List Bool) × (Int × Unit))) × Unit) × ((List CH) × I2)) → (Option (((Option I2) × Unit) × Unit))) :=
  (fun (x19 : ((((List (Int × (Int × (Bool × (Int × I2))))) × ((List Bool) × (Int × Unit))) × Unit) × ((List CH) × I2))) => (x16 ((x19.1.1, ()), ((Go.IntKind.wrap Go.IntKind.i64 (x19.2.2.2.1 + (1 : Int))), (x19.2.1, (x19.2.2.1, ()))))))
def d28_L3 (x0 : Nat) (x15 : ((Unit × Unit) → (Option (((Option I2) × Unit) × Unit)))) : ((((((List (Int × (Int × (Bool × (Int × I2))))) × ((List Bool) × (Int × Unit))) × Unit) × (Int × ((List CH) × (Int × Unit)))) → (Option (((Option I2) × Unit) × Unit))) → (((((List (Int × (Int × (Bool × (Int × I2))))) × ((List Bool) × (Int × Unit))) × Unit) × (Int × ((List CH) × (Int × Unit)))) → (Option (((Option I2) × Unit) × Unit)))) :=
  (fun (x16 : (((((List (Int × (Int × (Bool × (Int × I2))))) × ((List Bool) × (Int × Unit))) × Unit) × (Int × ((List CH) × (Int × Unit)))) → (Option (((Option I2) × Unit) × Unit)))) => (fun (x17 : ((((List (Int × (Int × (Bool × (Int × I2))))) × ((List Bool) × (Int × Unit))) × Unit) × (Int × ((List CH) × (Int × Unit))))) => (lt (Decidable.decide (x17.2.1 < x17.2.2.2.1)) fun (x18 : Bool) =>
  (if (x18 = Bool.true) then
  (shr (d28_K2 x16) (fun (x19 : (((((List (Int × (Int × (Bool × (Int × I2))))) × ((List Bool) × (Int × Unit))) × Unit) × ((List CH) × I2)) → (Option (((Option I2) × Unit) × Unit)))) => (if (((Decidable.decide ((0 : Int) ≤ x17.2.1)) && (Decidable.decide (x17.2.1 < (((List.length x17.2.2.1) : Nat) : Int)))) = Bool.true) then
  (lt (List.getD x17.2.2.1 (Int.toNat x17.2.1) ((0 : Int), ((0 : Int), (([] : List Int), ((0 : Int), ((0 : Int), ())))))) fun (x20 : CH) =>
  (Option.bind (d45 x0 (x17.1.1, (x20, ()))) fun (x21 : ((Bool × Unit) × (((List (Int × (Int × (Bool × (Int × I2))))) × ((List Bool) × (Int × Unit))) × Unit))) =>
  (lt (Bool.not x21.1.1) fun (x22 : Bool) =>
  (if (x22 = Bool.true) then
  (Option.some (((Option.some ((108 : Int), ((Go.IntKind.wrap Go.IntKind.i64 (x17.2.1 + (1 : Int))), ()))), ()), ()))
  else (x19 ((x21.2.1, ()), (x17.2.2.1, (x17.2.2.2.1, (x17.2.1, ())))))))))
  else (Option.none))))
  else (x15 ((), ()))))))
def d28_K4 (x0 : Nat) : (((((List PT) × ((List (Int × (Int × (Bool × (Int × I2))))) × ((List CH) × Unit))) × Unit) × Unit) → (Option (((Option I2) × Unit) × Unit))) :=
  (fun (x14 : ((((List PT) × ((List (Int × (Int × (Bool × (Int × I2))))) × ((List CH) × Unit))) × Unit) × Unit)) => (shr d28_K1 (fun (x15 : ((Unit × Unit) → (Option (((Option I2) × Unit) × Unit)))) => (loopN (d28_L3 x0 x15) x0 (((x14.1.1.2.1, ((List.replicate (65 : Nat) Bool.false), ((0 : Int), ()))), ()), ((0 : Int), (x14.1.1.2.2.1, ((((List.length x14.1.1.2.2.1) : Nat) : Int), ()))))))))
def d28_K5 (x15 : (((((List PT) × ((List (Int × (Int × (Bool × (Int × I2))))) × ((List CH) × Unit))) × Unit) × (Int × ((List (Int × (Int × (Bool × (Int × I2))))) × (Int × Unit)))) → (Option (((Option I2) × Unit) × Unit)))) : (((((List PT) × ((List (Int × (Int × (Bool × (Int × I2))))) × ((List CH) × Unit))) × Unit) × ((List (Int × (Int × (Bool × (Int × I2))))) × I2)) → (Option (((Option I2) × Unit) × Unit))) :=
  (fun (x18 : ((((List PT) × ((List (Int × (Int × (Bool × (Int × I2))))) × ((List CH) × Unit))) × Unit) × ((List (Int × (Int × (Bool × (Int × I2))))) × I2))) => (x15 ((x18.1.1, ()), ((Go.IntKind.wrap Go.IntKind.i64 (x18.2.2.2.1 + (1 : Int))), (x18.2.1, (x18.2.2.1, ()))))))
def d28_L6 (x0 : Nat) (x14 : (((((List PT) × ((List (Int × (Int × (Bool × (Int × I2))))) × ((List CH) × Unit))) × Unit) × Unit) → (Option (((Option I2) × Unit) × Unit)))) : ((((((List PT) × ((List (Int × (Int × (Bool × (Int × I2))))) × ((List CH) × Unit))) × Unit) × (Int × ((List (Int × (Int × (Bool × (Int × I2))))) × (Int × Unit)))) → (Option (((Option I2) × Unit) × Unit))) → (((((List PT) × ((List (Int × (Int × (Bool × (Int × I2))))) × ((List CH) × Unit))) × Unit) × (Int × ((List (Int × (Int × (Bool × (Int × I2))))) × (Int × Unit)))) → (Option (((Option I2) × Unit) × Unit)))) :=
  (fun (x15 : (((((List PT) × ((List (Int × (Int × (Bool × (Int × I2))))) × ((List CH) × Unit))) × Unit) × (Int × ((List (Int × (Int × (Bool × (Int × I2))))) × (Int × Unit)))) → (Option (((Option I2) × Unit) × Unit)))) => (fun (x16 : ((((List PT) × ((List (Int × (Int × (Bool × (Int × I2))))) × ((List CH) × Unit))) × Unit) × (Int × ((List (Int × (Int × (Bool × (Int × I2))))) × (Int × Unit))))) => (lt (Decidable.decide (x16.2.1 < x16.2.2.2.1)) fun (x17 : Bool) =>
  (if (x17 = Bool.true) then
  (shr (d28_K5 x15) (fun (x18 : (((((List PT) × ((List (Int × (Int × (Bool × (Int × I2))))) × ((List CH) × Unit))) × Unit) × ((List (Int × (Int × (Bool × (Int × I2))))) × I2)) → (Option (((Option I2) × Unit) × Unit)))) => (if (((Decidable.decide ((0 : Int) ≤ x16.2.1)) && (Decidable.decide (x16.2.1 < (((List.length x16.2.2.1) : Nat) : Int)))) = Bool.true) then
  (lt (List.getD x16.2.2.1 (Int.toNat x16.2.1) ((0 : Int), ((0 : Int), (Bool.false, ((0 : Int), ((0 : Int), ((0 : Int), ()))))))) fun (x19 : (Int × (Int × (Bool × (Int × I2))))) =>
  (lt (((List.length x16.1.1.1) : Nat) : Int) fun (x20 : Int) =>
  (Option.bind (d44 x0 (x19, (x20, ()))) fun (x21 : ((Bool × Unit) × Unit)) =>
  (lt (Bool.not x21.1.1) fun (x22 : Bool) =>
  (if (x22 = Bool.true) then
  (Option.some (((Option.some ((107 : Int), ((Go.IntKind.wrap Go.IntKind.i64 (x16.2.1 + (1 : Int))), ()))), ()), ()))
  else (x18 ((x16.1.1, ()), (x16.2.2.1, (x16.2.2.2.1, (x16.2.1, ()))))))))))
  else (Option.none))))
  else (x14 ((x16.1.1, ()), ()))))))
def d28_K7 (x0 : Nat) : (((((List PT) × ((List (Int × (Int × (Bool × (Int × I2))))) × ((List CH) × Unit))) × Unit) × Unit) → (Option (((Option I2) × Unit) × Unit))) :=
  (fun (x13 : ((((List PT) × ((List (Int × (Int × (Bool × (Int × I2))))) × ((List CH) × Unit))) × Unit) × Unit)) => (shr (d28_K4 x0) (fun (x14 : (((((List PT) × ((List (Int × (Int × (Bool × (Int × I2))))) × ((List CH) × Unit))) × Unit) × Unit) → (Option (((Option I2) × Unit) × Unit)))) => (loopN (d28_L6 x0 x14) x0 ((x13.1.1, ()), ((0 : Int), (x13.1.1.2.1, ((((List.length x13.1.1.2.1) : Nat) : Int), ()))))))))
def d28_K8 (x14 : (((((List PT) × ((List (Int × (Int × (Bool × (Int × I2))))) × ((List CH) × Unit))) × Unit) × (Int × ((List PT) × (Int × Unit)))) → (Option (((Option I2) × Unit) × Unit)))) : (((((List PT) × ((List (Int × (Int × (Bool × (Int × I2))))) × ((List CH) × Unit))) × Unit) × ((List PT) × I2)) → (Option (((Option I2) × Unit) × Unit))) :=
  (fun (x17 : ((((List PT) × ((List (Int × (Int × (Bool × (Int × I2))))) × ((List CH) × Unit))) × Unit) × ((List PT) × I2))) => (x14 ((x17.1.1, ()), ((Go.IntKind.wrap Go.IntKind.i64 (x17.2.2.2.1 + (1 : Int))), (x17.2.1, (x17.2.2.1, ()))))))
def d28_L9 (x0 : Nat) (x13 : (((((List PT) × ((List (Int × (Int × (Bool × (Int × I2))))) × ((List CH) × Unit))) × Unit) × Unit) → (Option (((Option I2) × Unit) × Unit)))) : ((((((List PT) × ((List (Int × (Int × (Bool × (Int × I2))))) × ((List CH) × Unit))) × Unit) × (Int × ((List PT) × (Int × Unit)))) → (Option (((Option I2) × Unit) × Unit))) → (((((List PT) × ((List (Int × (Int × (Bool × (Int × I2))))) × ((List CH) × Unit))) × Unit) × (Int × ((List PT) × (Int × Unit)))) → (Option (((Option I2) × Unit) × Unit)))) :=
  (fun (x14 : (((((List PT) × ((List (Int × (Int × (Bool × (Int × I2))))) × ((List CH) × Unit))) × Unit) × (Int × ((List PT) × (Int × Unit)))) → (Option (((Option I2) × Unit) × Unit)))) => (fun (x15 : ((((List PT) × ((List (Int × (Int × (Bool × (Int × I2))))) × ((List CH) × Unit))) × Unit) × (Int × ((List PT) × (Int × Unit))))) => (lt (Decidable.decide (x15.2.1 < x15.2.2.2.1)) fun (x16 : Bool) =>
  (if (x16 = Bool.true) then
  (shr (d28_K8 x14) (fun (x17 : (((((List PT) × ((List (Int × (Int × (Bool × (Int × I2))))) × ((List CH) × Unit))) × Unit) × ((List PT) × I2)) → (Option (((Option I2) × Unit) × Unit)))) => (if (((Decidable.decide ((0 : Int) ≤ x15.2.1)) && (Decidable.decide (x15.2.1 < (((List.length x15.2.2.1) : Nat) : Int)))) = Bool.true) then
  (lt (List.getD x15.2.2.1 (Int.toNat x15.2.1) (((0 : Int), ((0 : Int), ((0 : Int), ((0 : Int), ())))), ((0 : Int), ((0 : Int), (([] : List Int), (([] : List IS), (([] : List PC), ((0 : Int), ((List.replicate (8 : Nat) (0 : Int)), (([] : List I2), (([] : List Bool), (([] : List I2), ())))))))))))) fun (x18 : PT) =>
  (Option.bind (d43 x0 ()) fun (x19 : (((List (Int × ((Option Nat) × Unit))) × Unit) × Unit)) =>
  (lt (Go.IntKind.wrap Go.IntKind.i64 (x15.2.1 + (1 : Int))) fun (x20 : Int) =>
  (Option.bind (d40 x0 (x19.1.1, (x18, (x20, ())))) fun (x21 : (((Option I2) × Unit) × Unit)) =>
  (lt (Bool.not (Option.isNone x21.1.1)) fun (x22 : Bool) =>
  (if (x22 = Bool.true) then
  (Option.some ((x21.1.1, ()), ()))
  else (x17 ((x15.1.1, ()), (x15.2.2.1, (x15.2.2.2.1, (x15.2.1, ())))))))))))
  else (Option.none))))
  else (x13 ((x15.1.1, ()), ()))))))
def d28_K10 (x0 : Nat) : (((((List PT) × ((List (Int × (Int × (Bool × (Int × I2))))) × ((List CH) × Unit))) × ((List SV) × Unit)) × Unit) → (Option (((Option I2) × Unit) × Unit))) :=
  (fun (x10 : ((((List PT) × ((List (Int × (Int × (Bool × (Int × I2))))) × ((List CH) × Unit))) × ((List SV) × Unit)) × Unit)) => (Option.bind (d42 x0 (x10.1.2.1, ())) fun (x11 : ((Int × ((Option I2) × Unit)) × Unit)) =>
  (lt (Bool.not (Option.isNone x11.1.2.1)) fun (x12 : Bool) =>
  (if (x12 = Bool.true) then
  (Option.some ((x11.1.2.1, ()), ()))
  else (shr (d28_K7 x0) (fun (x13 : (((((List PT) × ((List (Int × (Int × (Bool × (Int × I2))))) × ((List CH) × Unit))) × Unit) × Unit) → (Option (((Option I2) × Unit) × Unit)))) => (loopN (d28_L9 x0 x13) x0 ((x10.1.1, ()), ((0 : Int), (x10.1.1.1, ((((List.length x10.1.1.1) : Nat) : Int), ())))))))))))
def d28_K11 (x11 : ((((List SV) × (((List PT) × ((List (Int × (Int × (Bool × (Int × I2))))) × ((List CH) × Unit))) × Unit)) × (Int × ((List PT) × (Int × Unit)))) → (Option (((Option I2) × Unit) × Unit)))) : ((((List SV) × (((List PT) × ((List (Int × (Int × (Bool × (Int × I2))))) × ((List CH) × Unit))) × Unit)) × ((List PT) × I2)) → (Option (((Option I2) × Unit) × Unit))) :=
  (fun (x14 : (((List SV) × (((List PT) × ((List (Int × (Int × (Bool × (Int × I2))))) × ((List CH) × Unit))) × Unit)) × ((List PT) × I2))) => (x11 ((x14.1.1, (x14.1.2.1, ())), ((Go.IntKind.wrap Go.IntKind.i64 (x14.2.2.2.1 + (1 : Int))), (x14.2.1, (x14.2.2.1, ()))))))
def d28_L12 (x0 : Nat) (x10 : (((((List PT) × ((List (Int × (Int × (Bool × (Int × I2))))) × ((List CH) × Unit))) × ((List SV) × Unit)) × Unit) → (Option (((Option I2) × Unit) × Unit)))) : (((((List SV) × (((List PT) × ((List (Int × (Int × (Bool × (Int × I2))))) × ((List CH) × Unit))) × Unit)) × (Int × ((List PT) × (Int × Unit)))) → (Option (((Option I2) × Unit) × Unit))) → ((((List SV) × (((List PT) × ((List (Int × (Int × (Bool × (Int × I2))))) × ((List CH) × Unit))) × Unit)) × (Int × ((List PT) × (Int × Unit)))) → (Option (((Option I2) × Unit) × Unit)))) :=
  (fun (x11 : ((((List SV) × (((List PT) × ((List (Int × (Int × (Bool × (Int × I2))))) × ((List CH) × Unit))) × Unit)) × (Int × ((List PT) × (Int × Unit)))) → (Option (((Option I2) × Unit) × Unit)))) => (fun (x12 : (((List SV) × (((List PT) × ((List (Int × (Int × (Bool × (Int × I2))))) × ((List CH) × Unit))) × Unit)) × (Int × ((List PT) × (Int × Unit))))) => (lt (Decidable.decide (x12.2.1 < x12.2.2.2.1)) fun (x13 : Bool) =>
  (if (x13 = Bool.true) then
  (shr (d28_K11 x11) (fun (x14 : ((((List SV) × (((List PT) × ((List (Int × (Int × (Bool × (Int × I2))))) × ((List CH) × Unit))) × Unit)) × ((List PT) × I2)) → (Option (((Option I2) × Unit) × Unit)))) => (if (((Decidable.decide ((0 : Int) ≤ x12.2.1)) && (Decidable.decide (x12.2.1 < (((List.length x12.2.2.1) : Nat) : Int)))) = Bool.true) then
  (lt (List.getD x12.2.2.1 (Int.toNat x12.2.1) (((0 : Int), ((0 : Int), ((0 : Int), ((0 : Int), ())))), ((0 : Int), ((0 : Int), (([] : List Int), (([] : List IS), (([] : List PC), ((0 : Int), ((List.replicate (8 : Nat) (0 : Int)), (([] : List I2), (([] : List Bool), (([] : List I2), ())))))))))))) fun (x15 : PT) =>
  (lt (List.replicate (8 : Nat) (0 : Int)) fun (x16 : (List Int)) =>
  (Option.bind (d41 x0 ()) fun (x17 : (((List (Int × ((Option Nat) × Unit))) × Unit) × Unit)) =>
  (lt (Go.IntKind.wrap Go.IntKind.i64 (x12.2.1 + (1 : Int))) fun (x18 : Int) =>
  (Option.bind (d40 x0 (x17.1.1, (x15, (x18, ())))) fun (x19 : (((Option I2) × Unit) × Unit)) =>
  (lt (Bool.not (Option.isNone x19.1.1)) fun (x20 : Bool) =>
  (if (x20 = Bool.true) then
  (Option.some ((x19.1.1, ()), ()))
  else (lt (x15.1 :: ([] : List SV)) fun (x21 : (List SV)) =>
  (if ((Go.Lift.appFits (List.length x12.1.1) (List.length x21) (32 : Nat)) = Bool.true) then
  (x14 (((x12.1.1 ++ x21), (x12.1.2.1, ())), (x12.2.2.1, (x12.2.2.2.1, (x12.2.1, ())))))
  else (Option.none))))))))))
  else (Option.none))))
  else (x10 ((x12.1.2.1, (x12.1.1, ())), ()))))))
def d28 : (Nat → ((((List PT) × ((List (Int × (Int × (Bool × (Int × I2))))) × ((List CH) × Unit))) × Unit) → (Option (((Option I2) × Unit) × Unit)))) :=
  (fun (x0 : Nat) => (fun (x1 : (((List PT) × ((List (Int × (Int × (Bool × (Int × I2))))) × ((List CH) × Unit))) × Unit)) => (lt (((List.length x1.1.1) : Nat) : Int) fun (x2 : Int) =>
  (lt (Decidable.decide (x2 > (32 : Int))) fun (x3 : Bool) =>
  (lt (((List.length x1.1.2.1) : Nat) : Int) fun (x4 : Int) =>
  (lt (Decidable.decide (x4 > (64 : Int))) fun (x5 : Bool) =>
  (lt (if (x3 = Bool.true) then
  Bool.true
  else x5) fun (x6 : Bool) =>
  (lt (((List.length x1.1.2.2.1) : Nat) : Int) fun (x7 : Int) =>
  (lt (Decidable.decide (x7 > (64 : Int))) fun (x8 : Bool) =>
  (lt (if (x6 = Bool.true) then
  Bool.true
  else x8) fun (x9 : Bool) =>
  (if (x9 = Bool.true) then
  (Option.some (((Option.some ((100 : Int), ((0 : Int), ()))), ()), ()))
  else (shr (d28_K10 x0) (fun (x10 : (((((List PT) × ((List (Int × (Int × (Bool × (Int × I2))))) × ((List CH) × Unit))) × ((List SV) × Unit)) × Unit) → (Option (((Option I2) × Unit) × Unit)))) => (loopN (d28_L12 x0 x10) x0 ((([] : List SV), (x1.1, ())), ((0 : Int), (x1.1.1, ((((List.length x1.1.1) : Nat) : Int), ()))))))))))))))))))
theorem k28 : c_fn Tryz.prog ⟨[(41, ⟨s41, d41⟩), (40, ⟨s40, d40⟩), (42, ⟨s42, d42⟩), (43, ⟨s43, d43⟩), (44, ⟨s44, d44⟩), (45, ⟨s45, d45⟩)], ks0⟩ Tryz.f28 s28 h28 = some d28 := by kernel_rfl
/-- bulkhead/check.face -/
def s27 : Sig := ⟨[((.ifc 66 (.ptr 70 kI2)), .val)], [((.int .i64), .val), ((.int .i64), .val)]⟩
def d27 (_ : Nat) (x : Option (Int × (Int × Unit)) × Unit) : Option ((Int × (Int × Unit)) × Unit) := some (match x.1 with | some y => ((y.1, (y.2.1, ())), ()) | none => ((0, (0, ())), ()))
/-- bulkhead/check.Check -/
def s11 : Sig := ⟨[((.pair (.sl 82 kPT) (.pair (.sl 42 (.pair (.int .i64) (.pair (.int .i64) (.pair .bool (.pair (.int .i64) kI2))))) (.pair (.sl 39 kCH) .unit))), .val)], [((.int .i64), .val), ((.int .i64), .val)]⟩
 def h11 : Hint := (.seq .leaf
   (.seq .leaf
   .leaf))
def d11 : (Nat → ((((List PT) × ((List (Int × (Int × (Bool × (Int × I2))))) × ((List CH) × Unit))) × Unit) → (Option (I2 × Unit)))) :=
  (fun (x0 : Nat) => (fun (x1 : (((List PT) × ((List (Int × (Int × (Bool × (Int × I2))))) × ((List CH) × Unit))) × Unit)) => (Option.bind (d28 x0 (x1.1, ())) fun (x2 : (((Option I2) × Unit) × Unit)) =>
  (Option.bind (d27 x0 (x2.1.1, ())) fun (x3 : (I2 × Unit)) =>
  (Option.some ((x3.1.1, (x3.1.2.1, ())), ()))))))
theorem k11 : c_fn Tryz.prog ⟨[(28, ⟨s28, d28⟩), (27, ⟨s27, d27⟩)], ks0⟩ Tryz.f11 s11 h11 = some d11 := by kernel_rfl
/-- bulkhead/bulkheadlaw18.ChannelEnds -/
def s3 : Sig := ⟨[((.pair (.sl 82 kPT) (.pair (.sl 42 (.pair (.int .i64) (.pair (.int .i64) (.pair .bool (.pair (.int .i64) kI2))))) (.pair (.sl 39 kCH) .unit))), .val), ((.int .i64), .val)], [(.bool, .val)]⟩
 def h3 : Hint := (.seq .leaf
   (.seq (.seq .leaf
   (.cond none
     (.seq .leaf
     .leaf)
     .leaf))
   (.seq .leaf
   (.seq .leaf
   (.seq (.seq .leaf
   (.cond none
     (.seq .leaf
     .leaf)
     .leaf))
   (.seq (.seq .leaf
   (.block ⟨[((.ptr 26 (.pair (.sl 82 kPT) (.pair (.sl 42 (.pair (.int .i64) (.pair (.int .i64) (.pair .bool (.pair (.int .i64) kI2))))) (.pair (.sl 39 kCH) .unit)))), (.ow .sh), (2, 0))], [((2, 0), (.own 0))]⟩ true
     (.loop ⟨[((.sl 3 (.int .i64)), (.ow .sh), (6, 0)), ((.sl 3 (.int .i64)), (.ow .sh), (5, 0)), ((.ptr 26 (.pair (.sl 82 kPT) (.pair (.sl 42 (.pair (.int .i64) (.pair (.int .i64) (.pair .bool (.pair (.int .i64) kI2))))) (.pair (.sl 39 kCH) .unit)))), (.ow .sh), (2, 0))], [((7, 0), (.val (.int .i64))), ((1, 0), (.val (.int .i64))), ((6, 0), (.own 0)), ((5, 0), (.own 1)), ((2, 0), (.own 2))]⟩
       (.seq (.seq .leaf
       (.cond none
         .leaf
         .leaf))
       (.seq (.block ⟨[((.sl 3 (.int .i64)), (.ow .sh), (6, 0)), ((.sl 3 (.int .i64)), (.ow .sh), (5, 0)), ((.ptr 26 (.pair (.sl 82 kPT) (.pair (.sl 42 (.pair (.int .i64) (.pair (.int .i64) (.pair .bool (.pair (.int .i64) kI2))))) (.pair (.sl 39 kCH) .unit)))), (.ow .sh), (2, 0))], [((1, 0), (.val (.int .i64))), ((6, 0), (.own 0)), ((5, 0), (.own 1)), ((2, 0), (.own 2)), ((7, 0), (.val (.int .i64)))]⟩ true
         (.seq (.seq .leaf
         (.cond none
           (.seq .leaf
           .leaf)
           .leaf))
         (.seq .leaf
         (.seq .leaf
         (.cond none
           (.seq .leaf
           .leaf)
           .leaf)))))
       .leaf)))))
   (.seq .leaf
   (.seq (.seq .leaf
   (.cond none
     (.seq .leaf
     .leaf)
     .leaf))
   (.seq (.seq .leaf
   (.block ⟨[], []⟩ true
     (.loop ⟨[((.ptr 26 (.pair (.sl 82 kPT) (.pair (.sl 42 (.pair (.int .i64) (.pair (.int .i64) (.pair .bool (.pair (.int .i64) kI2))))) (.pair (.sl 39 kCH) .unit)))), (.ow .sh), (2, 0))], [((13, 0), (.val (.int .i64))), ((2, 0), (.own 0))]⟩
       (.seq (.seq .leaf
       (.cond none
         .leaf
         .leaf))
       (.seq (.block ⟨[((.ptr 26 (.pair (.sl 82 kPT) (.pair (.sl 42 (.pair (.int .i64) (.pair (.int .i64) (.pair .bool (.pair (.int .i64) kI2))))) (.pair (.sl 39 kCH) .unit)))), (.ow .sh), (2, 0))], [((2, 0), (.own 0)), ((13, 0), (.val (.int .i64)))]⟩ true
         (.seq .leaf
         (.seq (.seq .leaf
         (.cond none
           (.seq .leaf
           .leaf)
           .leaf))
         (.seq .leaf
         (.block ⟨[((.ptr 26 (.pair (.sl 82 kPT) (.pair (.sl 42 (.pair (.int .i64) (.pair (.int .i64) (.pair .bool (.pair (.int .i64) kI2))))) (.pair (.sl 39 kCH) .unit)))), (.ow .sh), (2, 0))], [((2, 0), (.own 0)), ((13, 0), (.val (.int .i64)))]⟩ true
           (.loop ⟨[((.ptr 39 kCH), (.ow .sh), (14, 0)), ((.ptr 26 (.pair (.sl 82 kPT) (.pair (.sl 42 (.pair (.int .i64) (.pair (.int .i64) (.pair .bool (.pair (.int .i64) kI2))))) (.pair (.sl 39 kCH) .unit)))), (.ow .sh), (2, 0))], [((15, 0), (.val (.int .i64))), ((13, 0), (.val (.int .i64))), ((14, 0), (.own 0)), ((2, 0), (.own 1))]⟩
             (.seq (.seq .leaf
             (.cond none
               .leaf
               .leaf))
             (.seq (.block ⟨[((.ptr 39 kCH), (.ow .sh), (14, 0)), ((.ptr 26 (.pair (.sl 82 kPT) (.pair (.sl 42 (.pair (.int .i64) (.pair (.int .i64) (.pair .bool (.pair (.int .i64) kI2))))) (.pair (.sl 39 kCH) .unit)))), (.ow .sh), (2, 0))], [((13, 0), (.val (.int .i64))), ((14, 0), (.own 0)), ((2, 0), (.own 1)), ((15, 0), (.val (.int .i64)))]⟩ true
               (.seq .leaf
               (.cond none
                 (.seq .leaf
                 .leaf)
                 .leaf)))
             .leaf))))))))
       .leaf)))))
   (.seq .leaf
   .leaf))))))))))
def d3_K1 (x22 : (((((List PT) × ((List (Int × (Int × (Bool × (Int × I2))))) × ((List CH) × Unit))) × Unit) × (Int × Unit)) → (Option ((Bool × Unit) × Unit)))) : (((((List PT) × ((List (Int × (Int × (Bool × (Int × I2))))) × ((List CH) × Unit))) × Unit) × (Int × Unit)) → (Option ((Bool × Unit) × Unit))) :=
  (fun (x26 : ((((List PT) × ((List (Int × (Int × (Bool × (Int × I2))))) × ((List CH) × Unit))) × Unit) × (Int × Unit))) => (x22 ((x26.1.1, ()), ((Go.IntKind.wrap Go.IntKind.i64 (x26.2.1 + (1 : Int))), ()))))
def d3_K2 (x26 : (((((List PT) × ((List (Int × (Int × (Bool × (Int × I2))))) × ((List CH) × Unit))) × Unit) × (Int × Unit)) → (Option ((Bool × Unit) × Unit)))) : (((((List PT) × ((List (Int × (Int × (Bool × (Int × I2))))) × ((List CH) × Unit))) × Unit) × (Int × Unit)) → (Option ((Bool × Unit) × Unit))) :=
  (fun (x33 : ((((List PT) × ((List (Int × (Int × (Bool × (Int × I2))))) × ((List CH) × Unit))) × Unit) × (Int × Unit))) => (x26 ((x33.1.1, ()), (x33.2.1, ()))))
def d3_K3 (x34 : (((CH × (((List PT) × ((List (Int × (Int × (Bool × (Int × I2))))) × ((List CH) × Unit))) × Unit)) × I2) → (Option ((Bool × Unit) × Unit)))) : (((CH × (((List PT) × ((List (Int × (Int × (Bool × (Int × I2))))) × ((List CH) × Unit))) × Unit)) × I2) → (Option ((Bool × Unit) × Unit))) :=
  (fun (x38 : ((CH × (((List PT) × ((List (Int × (Int × (Bool × (Int × I2))))) × ((List CH) × Unit))) × Unit)) × I2)) => (x34 ((x38.1.1, (x38.1.2.1, ())), ((Go.IntKind.wrap Go.IntKind.i64 (x38.2.2.1 + (1 : Int))), (x38.2.1, ())))))
def d3_L4 (x0 : Nat) (x33 : (((((List PT) × ((List (Int × (Int × (Bool × (Int × I2))))) × ((List CH) × Unit))) × Unit) × (Int × Unit)) → (Option ((Bool × Unit) × Unit)))) : ((((CH × (((List PT) × ((List (Int × (Int × (Bool × (Int × I2))))) × ((List CH) × Unit))) × Unit)) × I2) → (Option ((Bool × Unit) × Unit))) → (((CH × (((List PT) × ((List (Int × (Int × (Bool × (Int × I2))))) × ((List CH) × Unit))) × Unit)) × I2) → (Option ((Bool × Unit) × Unit)))) :=
  (fun (x34 : (((CH × (((List PT) × ((List (Int × (Int × (Bool × (Int × I2))))) × ((List CH) × Unit))) × Unit)) × I2) → (Option ((Bool × Unit) × Unit)))) => (fun (x35 : ((CH × (((List PT) × ((List (Int × (Int × (Bool × (Int × I2))))) × ((List CH) × Unit))) × Unit)) × I2)) => (lt (((List.length x35.1.1.2.2.1) : Nat) : Int) fun (x36 : Int) =>
  (lt (Decidable.decide (x35.2.1 < x36)) fun (x37 : Bool) =>
  (if (x37 = Bool.true) then
  (shr (d3_K3 x34) (fun (x38 : (((CH × (((List PT) × ((List (Int × (Int × (Bool × (Int × I2))))) × ((List CH) × Unit))) × Unit)) × I2) → (Option ((Bool × Unit) × Unit)))) => (if (((Decidable.decide ((0 : Int) ≤ x35.2.1)) && (Decidable.decide (x35.2.1 < (((List.length x35.1.1.2.2.1) : Nat) : Int)))) = Bool.true) then
  (lt (List.getD x35.1.1.2.2.1 (Int.toNat x35.2.1) (0 : Int)) fun (x39 : Int) =>
  (Option.bind (d13 x0 (x35.1.2.1, (x39, ()))) fun (x40 : ((Int × Unit) × Unit)) =>
  (lt (x40.1.1 != x35.2.2.1) fun (x41 : Bool) =>
  (if (x41 = Bool.true) then
  (Option.some ((Bool.false, ()), ()))
  else (x38 ((x35.1.1, (x35.1.2.1, ())), (x35.2.2.1, (x35.2.1, ()))))))))
  else (Option.none))))
  else (x33 ((x35.1.2.1, ()), (x35.2.2.1, ()))))))))
def d3_L5 (x0 : Nat) (x21 : ((Unit × Unit) → (Option ((Bool × Unit) × Unit)))) : ((((((List PT) × ((List (Int × (Int × (Bool × (Int × I2))))) × ((List CH) × Unit))) × Unit) × (Int × Unit)) → (Option ((Bool × Unit) × Unit))) → (((((List PT) × ((List (Int × (Int × (Bool × (Int × I2))))) × ((List CH) × Unit))) × Unit) × (Int × Unit)) → (Option ((Bool × Unit) × Unit)))) :=
  (fun (x22 : (((((List PT) × ((List (Int × (Int × (Bool × (Int × I2))))) × ((List CH) × Unit))) × Unit) × (Int × Unit)) → (Option ((Bool × Unit) × Unit)))) => (fun (x23 : ((((List PT) × ((List (Int × (Int × (Bool × (Int × I2))))) × ((List CH) × Unit))) × Unit) × (Int × Unit))) => (lt (((List.length x23.1.1.2.2.1) : Nat) : Int) fun (x24 : Int) =>
  (lt (Decidable.decide (x23.2.1 ≤ x24)) fun (x25 : Bool) =>
  (if (x25 = Bool.true) then
  (shr (d3_K1 x22) (fun (x26 : (((((List PT) × ((List (Int × (Int × (Bool × (Int × I2))))) × ((List CH) × Unit))) × Unit) × (Int × Unit)) → (Option ((Bool × Unit) × Unit)))) => (lt (Go.IntKind.wrap Go.IntKind.i64 (x23.2.1 - (1 : Int))) fun (x27 : Int) =>
  (if (((Decidable.decide ((0 : Int) ≤ x27)) && (Decidable.decide (x27 < (((List.length x23.1.1.2.2.1) : Nat) : Int)))) = Bool.true) then
  (lt (List.getD x23.1.1.2.2.1 (Int.toNat x27) ((0 : Int), ((0 : Int), (([] : List Int), ((0 : Int), ((0 : Int), ())))))) fun (x28 : CH) =>
  (lt (Decidable.decide (x28.2.1 > (0 : Int))) fun (x29 : Bool) =>
  (Option.bind (if (((x29 == Bool.true) && Bool.true) = Bool.true) then
  (d12 x0 (x23.1.1, (x28.2.1, ())))
  else (Option.some (((0 : Int), ()), ()))) fun (x30 : ((Int × Unit) × Unit)) =>
  (lt (x30.1.1 != x23.2.1) fun (x31 : Bool) =>
  (lt (if (x29 = Bool.true) then
  x31
  else Bool.false) fun (x32 : Bool) =>
  (if (x32 = Bool.true) then
  (Option.some ((Bool.false, ()), ()))
  else (shr (d3_K2 x26) (fun (x33 : (((((List PT) × ((List (Int × (Int × (Bool × (Int × I2))))) × ((List CH) × Unit))) × Unit) × (Int × Unit)) → (Option ((Bool × Unit) × Unit)))) => (loopN (d3_L4 x0 x33) x0 ((x28, (x23.1.1, ())), ((0 : Int), (x23.2.1, ()))))))))))))
  else (Option.none)))))
  else (x21 ((), ())))))))
def d3_K6 (x0 : Nat) : (((((List PT) × ((List (Int × (Int × (Bool × (Int × I2))))) × ((List CH) × Unit))) × Unit) × Unit) → (Option ((Bool × Unit) × Unit))) :=
  (fun (x18 : ((((List PT) × ((List (Int × (Int × (Bool × (Int × I2))))) × ((List CH) × Unit))) × Unit) × Unit)) => (Option.bind (d11 x0 (x18.1.1, ())) fun (x19 : (I2 × Unit)) =>
  (lt (x19.1.1 != (0 : Int)) fun (x20 : Bool) =>
  (if (x20 = Bool.true) then
  (Option.some ((Bool.true, ()), ()))
  else (shr (fun (x21 : (Unit × Unit)) => (Option.some ((Bool.true, ()), ()))) (fun (x21 : ((Unit × Unit) → (Option ((Bool × Unit) × Unit)))) => (loopN (d3_L5 x0 x21) x0 ((x18.1.1, ()), ((1 : Int), ())))))))))
def d3_K7 (x19 : ((((List Int) × ((List Int) × (((List PT) × ((List (Int × (Int × (Bool × (Int × I2))))) × ((List CH) × Unit))) × Unit))) × I2) → (Option ((Bool × Unit) × Unit)))) : ((((List Int) × ((List Int) × (((List PT) × ((List (Int × (Int × (Bool × (Int × I2))))) × ((List CH) × Unit))) × Unit))) × I2) → (Option ((Bool × Unit) × Unit))) :=
  (fun (x23 : (((List Int) × ((List Int) × (((List PT) × ((List (Int × (Int × (Bool × (Int × I2))))) × ((List CH) × Unit))) × Unit))) × I2)) => (x19 ((x23.1.1, (x23.1.2.1, (x23.1.2.2.1, ()))), ((Go.IntKind.wrap Go.IntKind.i64 (x23.2.2.1 + (1 : Int))), (x23.2.1, ())))))
def d3_L8 (x0 : Nat) (x18 : (((((List PT) × ((List (Int × (Int × (Bool × (Int × I2))))) × ((List CH) × Unit))) × Unit) × Unit) → (Option ((Bool × Unit) × Unit)))) : (((((List Int) × ((List Int) × (((List PT) × ((List (Int × (Int × (Bool × (Int × I2))))) × ((List CH) × Unit))) × Unit))) × I2) → (Option ((Bool × Unit) × Unit))) → ((((List Int) × ((List Int) × (((List PT) × ((List (Int × (Int × (Bool × (Int × I2))))) × ((List CH) × Unit))) × Unit))) × I2) → (Option ((Bool × Unit) × Unit)))) :=
  (fun (x19 : ((((List Int) × ((List Int) × (((List PT) × ((List (Int × (Int × (Bool × (Int × I2))))) × ((List CH) × Unit))) × Unit))) × I2) → (Option ((Bool × Unit) × Unit)))) => (fun (x20 : (((List Int) × ((List Int) × (((List PT) × ((List (Int × (Int × (Bool × (Int × I2))))) × ((List CH) × Unit))) × Unit))) × I2)) => (lt (((List.length x20.1.2.2.1.2.2.1) : Nat) : Int) fun (x21 : Int) =>
  (lt (Decidable.decide (x20.2.1 ≤ x21)) fun (x22 : Bool) =>
  (if (x22 = Bool.true) then
  (shr (d3_K7 x19) (fun (x23 : ((((List Int) × ((List Int) × (((List PT) × ((List (Int × (Int × (Bool × (Int × I2))))) × ((List CH) × Unit))) × Unit))) × I2) → (Option ((Bool × Unit) × Unit)))) => (Option.bind (d8 x0 (x20.1.2.2.1, (x20.2.1, ()))) fun (x24 : ((Bool × Unit) × Unit)) =>
  (lt (Bool.not x24.1.1) fun (x25 : Bool) =>
  (if (x25 = Bool.true) then
  (Option.some ((Bool.false, ()), ()))
  else (Option.bind (d9 x0 (x20.1.2.2.1, (x20.2.1, ()))) fun (x26 : ((Int × ((List Int) × (Int × Unit))) × Unit)) =>
  (lt (Decidable.decide (x20.2.2.1 ≥ (1 : Int))) fun (x27 : Bool) =>
  (Option.bind (if (((x27 == Bool.true) && Bool.true) = Bool.true) then
  (d10 x0 (x20.1.2.1, (x20.2.1, ())))
  else (Option.some ((Bool.false, ()), ()))) fun (x28 : ((Bool × Unit) × Unit)) =>
  (lt (x26.1.1 == x20.2.2.1) fun (x29 : Bool) =>
  (lt (Bool.not (x28.1.1 == x29)) fun (x30 : Bool) =>
  (Option.bind (if (((x30 == Bool.false) && ((x27 == Bool.true) && Bool.true)) = Bool.true) then
  (d10 x0 (x20.1.1, (x20.2.1, ())))
  else (Option.some ((Bool.false, ()), ()))) fun (x31 : ((Bool × Unit) × Unit)) =>
  (Option.bind (if (((x30 == Bool.false) && ((x27 == Bool.true) && Bool.true)) = Bool.true) then
  (d10 x0 (x26.1.2.1, (x20.2.2.1, ())))
  else (Option.some ((Bool.false, ()), ()))) fun (x32 : ((Bool × Unit) × Unit)) =>
  (lt (Bool.not (x31.1.1 == x32.1.1)) fun (x33 : Bool) =>
  (lt (if (x30 = Bool.true) then
  Bool.true
  else x33) fun (x34 : Bool) =>
  (lt (if (x27 = Bool.true) then
  x34
  else Bool.false) fun (x35 : Bool) =>
  (if (x35 = Bool.true) then
  (Option.some ((Bool.false, ()), ()))
  else (x23 ((x20.1.1, (x20.1.2.1, (x20.1.2.2.1, ()))), (x20.2.2.1, (x20.2.1, ()))))))))))))))))))))
  else (x18 ((x20.1.2.2.1, ()), ())))))))
def d3 : (Nat → ((((List PT) × ((List (Int × (Int × (Bool × (Int × I2))))) × ((List CH) × Unit))) × (Int × Unit)) → (Option ((Bool × Unit) × Unit)))) :=
  (fun (x0 : Nat) => (fun (x1 : (((List PT) × ((List (Int × (Int × (Bool × (Int × I2))))) × ((List CH) × Unit))) × (Int × Unit))) => (Option.bind (d4 x0 ()) fun (x2 : ((Bool × Unit) × Unit)) =>
  (lt (Bool.not x2.1.1) fun (x3 : Bool) =>
  (if (x3 = Bool.true) then
  (Option.some ((Bool.false, ()), ()))
  else (Option.bind (d5 x0 (x1.1, (x1.2.1, ()))) fun (x4 : (((List Int) × Unit) × Unit)) =>
  (Option.bind (d6 x0 (x1.1, (x1.2.1, ()))) fun (x5 : (((List Int) × Unit) × Unit)) =>
  (Option.bind (d7 x0 (x4.1.1, ())) fun (x6 : ((Bool × Unit) × Unit)) =>
  (lt (Bool.not x6.1.1) fun (x7 : Bool) =>
  (Option.bind (if (((x7 == Bool.false) && Bool.true) = Bool.true) then
  (d7 x0 (x5.1.1, ()))
  else (Option.some ((Bool.false, ()), ()))) fun (x8 : ((Bool × Unit) × Unit)) =>
  (lt (Bool.not x8.1.1) fun (x9 : Bool) =>
  (lt (if (x7 = Bool.true) then
  Bool.true
  else x9) fun (x10 : Bool) =>
  (lt (Decidable.decide (x1.2.1 < (1 : Int))) fun (x11 : Bool) =>
  (lt (((List.length x4.1.1) : Nat) : Int) fun (x12 : Int) =>
  (lt (((List.length x5.1.1) : Nat) : Int) fun (x13 : Int) =>
  (lt (Go.IntKind.wrap Go.IntKind.i64 (x12 + x13)) fun (x14 : Int) =>
  (lt (Decidable.decide (x14 > (0 : Int))) fun (x15 : Bool) =>
  (lt (if (x11 = Bool.true) then
  x15
  else Bool.false) fun (x16 : Bool) =>
  (lt (if (x10 = Bool.true) then
  Bool.true
  else x16) fun (x17 : Bool) =>
  (if (x17 = Bool.true) then
  (Option.some ((Bool.false, ()), ()))
  else (shr (d3_K6 x0) (fun (x18 : (((((List PT) × ((List (Int × (Int × (Bool × (Int × I2))))) × ((List CH) × Unit))) × Unit) × Unit) → (Option ((Bool × Unit) × Unit)))) => (loopN (d3_L8 x0 x18) x0 ((x5.1.1, (x4.1.1, (x1.1, ()))), ((1 : Int), (x1.2.1, ()))))))))))))))))))))))))))
theorem k3 : c_fn Tryz.prog ⟨[(4, ⟨s4, d4⟩), (5, ⟨s5, d5⟩), (6, ⟨s6, d6⟩), (7, ⟨s7, d7⟩), (8, ⟨s8, d8⟩), (9, ⟨s9, d9⟩), (10, ⟨s10, d10⟩), (11, ⟨s11, d11⟩), (12, ⟨s12, d12⟩), (13, ⟨s13, d13⟩)], ks0⟩ Tryz.f3 s3 h3 = some d3 := by kernel_rfl
/-- bulkhead/channel.Outlet$1 -/
def s19 : Sig := ⟨[(kCH, .val), ((.ptr 3 (.int .i64)), .val), ((.ptr 26 (.pair (.sl 82 kPT) (.pair (.sl 42 (.pair (.int .i64) (.pair (.int .i64) (.pair .bool (.pair (.int .i64) kI2))))) (.pair (.sl 39 kCH) .unit)))), .val)], [(.bool, .val)]⟩
 def h19 : Hint := (.seq .leaf
   (.seq .leaf
   .leaf))
def d19 : (Nat → ((CH × (Int × (((List PT) × ((List (Int × (Int × (Bool × (Int × I2))))) × ((List CH) × Unit))) × Unit))) → (Option ((Bool × Unit) × Unit)))) :=
  (fun (x0 : Nat) => (fun (x1 : (CH × (Int × (((List PT) × ((List (Int × (Int × (Bool × (Int × I2))))) × ((List CH) × Unit))) × Unit)))) => (lt (Decidable.decide (x1.2.1 > (0 : Int))) fun (x2 : Bool) =>
  (Option.bind (if (((x2 == Bool.true) && Bool.true) = Bool.true) then
  (d20 x0 (x1.2.2.1, (x1.1.2.1, ())))
  else (Option.some (((0 : Int), ()), ()))) fun (x3 : ((Int × Unit) × Unit)) =>
  (lt (x3.1.1 == x1.2.1) fun (x4 : Bool) =>
  (Option.some (((if (x2 = Bool.true) then
  x4
  else Bool.false), ()), ())))))))
theorem k19 : c_fn Tryz.prog ⟨[(20, ⟨s20, d20⟩)], ks0⟩ Tryz.f19 s19 h19 = some d19 := by kernel_rfl
/-- bulkhead/channel.Inlet$1 -/
def s21 : Sig := ⟨[(kCH, .val), ((.ptr 3 (.int .i64)), .val), ((.ptr 26 (.pair (.sl 82 kPT) (.pair (.sl 42 (.pair (.int .i64) (.pair (.int .i64) (.pair .bool (.pair (.int .i64) kI2))))) (.pair (.sl 39 kCH) .unit)))), .val)], [(.bool, .val)]⟩
 def h21 : Hint := (.seq .leaf
   (.seq .leaf
   .leaf))
def d21 : (Nat → ((CH × (Int × (((List PT) × ((List (Int × (Int × (Bool × (Int × I2))))) × ((List CH) × Unit))) × Unit))) → (Option ((Bool × Unit) × Unit)))) :=
  (fun (x0 : Nat) => (fun (x1 : (CH × (Int × (((List PT) × ((List (Int × (Int × (Bool × (Int × I2))))) × ((List CH) × Unit))) × Unit)))) => (lt (Decidable.decide (x1.2.1 > (0 : Int))) fun (x2 : Bool) =>
  (Option.bind (if (((x2 == Bool.true) && Bool.true) = Bool.true) then
  (d22x1 x0 (x1.1.2.2.1, ((x1.2.2.1, (x1.2.1, ())), ())))
  else (Option.some ((Bool.false, ()), ()))) fun (x3 : ((Bool × Unit) × Unit)) =>
  (Option.some (((if (x2 = Bool.true) then
  x3.1.1
  else Bool.false), ()), ()))))))
theorem k21 : c_fn Tryz.prog ⟨[(23, ⟨s23, d23⟩), (22, ⟨s22x1, d22x1⟩), (22, ⟨s22, d22⟩)], ks0⟩ Tryz.f21 s21 h21 = some d21 := by kernel_rfl
/-- bulkhead/channel.FromPort$1 -/
def s30 : Sig := ⟨[(kCH, .val), ((.ptr 3 (.int .i64)), .val)], [(.bool, .val)]⟩
 def h30 : Hint := (.seq .leaf
   (.seq .leaf
   .leaf))
def d30 : (Nat → ((CH × (Int × Unit)) → (Option ((Bool × Unit) × Unit)))) :=
  (fun (x0 : Nat) => (fun (x1 : (CH × (Int × Unit))) => (Option.some (((x1.1.2.1 == x1.2.1), ()), ()))))
theorem k30 : c_fn Tryz.prog ⟨[], ks0⟩ Tryz.f30 s30 h30 = some d30 := by kernel_rfl
/-- slices.Index[[]int,int] -/
def s46 : Sig := ⟨[((.sl 3 (.int .i64)), .val), ((.int .i64), .val)], [((.int .i64), .val)]⟩
 def h46 : Hint := (.seq .leaf
   (.seq (.seq .leaf
   (.block ⟨[], []⟩ true
     (.loop ⟨[], [((8, 0), (.val (.int .i64))), ((0, 0), (.val (.sl 3 (.int .i64)))), ((1, 0), (.val (.int .i64))), ((7, 0), (.val (.int .i64)))]⟩
       (.seq .leaf
       (.seq (.cond none
         .leaf
         .leaf)
       (.seq (.block ⟨[], [((0, 0), (.val (.sl 3 (.int .i64)))), ((1, 0), (.val (.int .i64))), ((7, 0), (.val (.int .i64))), ((8, 0), (.val (.int .i64)))]⟩ true
         (.seq .leaf
         (.seq .leaf
         (.cond none
           (.seq .leaf
           .leaf)
           .leaf))))
       .leaf))))))
   (.seq .leaf
   .leaf)))
def d46_K1 (x3 : ((Unit × (Int × ((List Int) × I2))) → (Option ((Int × Unit) × Unit)))) : ((Unit × ((List Int) × (Int × I2))) → (Option ((Int × Unit) × Unit))) :=
  (fun (x6 : (Unit × ((List Int) × (Int × I2)))) => (x3 ((), ((Go.IntKind.wrap Go.IntKind.i64 (x6.2.2.2.2.1 + (1 : Int))), (x6.2.1, (x6.2.2.1, (x6.2.2.2.1, ())))))))
def d46_L2 (x2 : ((Unit × Unit) → (Option ((Int × Unit) × Unit)))) : (((Unit × (Int × ((List Int) × I2))) → (Option ((Int × Unit) × Unit))) → ((Unit × (Int × ((List Int) × I2))) → (Option ((Int × Unit) × Unit)))) :=
  (fun (x3 : ((Unit × (Int × ((List Int) × I2))) → (Option ((Int × Unit) × Unit)))) => (fun (x4 : (Unit × (Int × ((List Int) × I2)))) => (lt (Decidable.decide (x4.2.1 < x4.2.2.2.2.1)) fun (x5 : Bool) =>
  (if (x5 = Bool.true) then
  (shr (d46_K1 x3) (fun (x6 : ((Unit × ((List Int) × (Int × I2))) → (Option ((Int × Unit) × Unit)))) => (if (((Decidable.decide ((0 : Int) ≤ x4.2.1)) && (Decidable.decide (x4.2.1 < (((List.length x4.2.2.1) : Nat) : Int)))) = Bool.true) then
  (lt (List.getD x4.2.2.1 (Int.toNat x4.2.1) (0 : Int)) fun (x7 : Int) =>
  (lt (x4.2.2.2.1 == x7) fun (x8 : Bool) =>
  (if (x8 = Bool.true) then
  (Option.some ((x4.2.1, ()), ()))
  else (x6 ((), (x4.2.2.1, (x4.2.2.2.1, (x4.2.2.2.2.1, (x4.2.1, ())))))))))
  else (Option.none))))
  else (x2 ((), ()))))))
def d46 : (Nat → (((List Int) × (Int × Unit)) → (Option ((Int × Unit) × Unit)))) :=
  (fun (x0 : Nat) => (fun (x1 : ((List Int) × (Int × Unit))) => (shr (fun (x2 : (Unit × Unit)) => (Option.some (((Neg.neg (1 : Int)), ()), ()))) (fun (x2 : ((Unit × Unit) → (Option ((Int × Unit) × Unit)))) => (loopN (d46_L2 x2) x0 ((), ((0 : Int), (x1.1, (x1.2.1, ((((List.length x1.1) : Nat) : Int), ()))))))))))
theorem k46 : c_fn Tryz.prog ⟨[], ks0⟩ Tryz.f46 s46 h46 = some d46 := by kernel_rfl
/-- slices.Contains[[]int,int] -/
def s32 : Sig := ⟨[((.sl 3 (.int .i64)), .val), ((.int .i64), .val)], [(.bool, .val)]⟩
 def h32 : Hint := (.seq .leaf
   (.seq .leaf
   .leaf))
def d32 : (Nat → (((List Int) × (Int × Unit)) → (Option ((Bool × Unit) × Unit)))) :=
  (fun (x0 : Nat) => (fun (x1 : ((List Int) × (Int × Unit))) => (Option.bind (d46 x0 (x1.1, (x1.2.1, ()))) fun (x2 : ((Int × Unit) × Unit)) =>
  (Option.some (((Decidable.decide (x2.1.1 ≥ (0 : Int))), ()), ())))))
theorem k32 : c_fn Tryz.prog ⟨[(46, ⟨s46, d46⟩)], ks0⟩ Tryz.f32 s32 h32 = some d32 := by kernel_rfl
/-- bulkhead/channel.ToPort$1 -/
def s31 : Sig := ⟨[(kCH, .val), ((.ptr 3 (.int .i64)), .val)], [(.bool, .val)]⟩
 def h31 : Hint := (.seq .leaf
   (.seq .leaf
   .leaf))
def d31 : (Nat → ((CH × (Int × Unit)) → (Option ((Bool × Unit) × Unit)))) :=
  (fun (x0 : Nat) => (fun (x1 : (CH × (Int × Unit))) => (Option.bind (d32 x0 (x1.1.2.2.1, (x1.2.1, ()))) fun (x2 : ((Bool × Unit) × Unit)) =>
  (Option.some ((x2.1.1, ()), ())))))
theorem k31 : c_fn Tryz.prog ⟨[(32, ⟨s32, d32⟩)], ks0⟩ Tryz.f31 s31 h31 = some d31 := by kernel_rfl
end Go.Proofs.YtjnnmgjpnbfhlaaGreatDoor.L
