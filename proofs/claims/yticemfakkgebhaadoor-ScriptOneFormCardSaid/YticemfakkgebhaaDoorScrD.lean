import Derived.Test.YticemfakkgebhaaDoorLiftC
import Derived.Test.YticemfakkgebhaaDoorProg
import Derived.Lib.Split
import Derived.Lib.IndexMore
import Derived.Lib.ItoaNum
import Derived.Lib.Join
import Derived.Lib.Strings
namespace Go.Proofs.YticemfakkgebhaaDoor.L
open Go Go.Lift Go.Proofs
set_option maxRecDepth 100000
set_option linter.unusedVariables false
abbrev IN : Type := (Int × (Int × (Int × ((List Int) × Unit))))
def inI (x : Int) : Prop := -9223372036854775808 ≤ x ∧ x ≤ 9223372036854775807
instance (x : Int) : Decidable (inI x) := by unfold inI; infer_instance
def u8s (l : List Int) : List UInt8 := l.map fun x => UInt8.ofNat x.toNat
def u8i (l : List UInt8) : List Int := l.map fun x => (x.toNat : Int)
def byteL (l : List Int) : Bool := l.all fun x => decide (0 ≤ x) && decide (x < 256)
def joinL (xs : List ByteArray) (sep : ByteArray) : List UInt8 := Lib.join (xs.map (·.data.toList)) sep.data.toList
def dig (c : Int) : Int := if c < 48 then -1 else if c > 57 then -1 else RowKit.wrap64 (RowKit.wrap32 (c - 48))
def stepN (n c : Int) : Int := if dig c ≥ 0 then RowKit.wrap64 (RowKit.wrap64 (n * 10) + dig c) else n
def numF (s : ByteArray) : Nat → Nat → Int → Int
  | 0, _, n => n
  | b + 1, pos, n => if pos < s.size then numF s b (pos + (Utf8.decode s pos).2) (stepN n (Utf8.decode s pos).1) else n
def minus (s : ByteArray) : Bool := Lib.hasPrefix s.data.toList [45]

/-- bulkhead/script.name -/
def s29 : Sig := ⟨[((.int .i64), .val)], [(.str, .val)]⟩
 def h29 : Hint := (.seq .leaf
   (.seq (.seq .leaf
   (.block ⟨[], []⟩ true
     (.seq .leaf
     (.cond none
       (.seq .leaf
       .leaf)
       (.seq .leaf
       (.cond none
         (.seq .leaf
         .leaf)
         .leaf))))))
   (.seq .leaf
   .leaf)))
def d29 : (Nat → ((Int × Unit) → (Option ((ByteArray × Unit) × Unit)))) :=
  (fun (x0 : Nat) => (fun (x1 : (Int × Unit)) => (shr (fun (x2 : (Unit × Unit)) => (Option.some (((ByteArray.mk (List.toArray ([] : List UInt8))), ()), ()))) (fun (x2 : ((Unit × Unit) → (Option ((ByteArray × Unit) × Unit)))) => (lt (x1.1 == (1 : Int)) fun (x3 : Bool) =>
  (if (x3 = Bool.true) then
  (Option.some (((ByteArray.mk (List.toArray ((109 : UInt8) :: ((101 : UInt8) :: ((115 : UInt8) :: ((115 : UInt8) :: ((97 : UInt8) :: ((103 : UInt8) :: ((101 : UInt8) :: ([] : List UInt8)))))))))), ()), ()))
  else (lt (x1.1 == (2 : Int)) fun (x4 : Bool) =>
  (if (x4 = Bool.true) then
  (Option.some (((ByteArray.mk (List.toArray ((119 : UInt8) :: ((97 : UInt8) :: ((107 : UInt8) :: ((101 : UInt8) :: ([] : List UInt8))))))), ()), ()))
  else (x2 ((), ()))))))))))
theorem k29 : c_fn Tryd.prog [] Tryd.f29 s29 h29 = some d29 := by kernel_rfl
/-- bulkhead/script.words -/
def s28 : Sig := ⟨[(.str, .val)], [((.pair (.int .i64) (.pair (.int .i64) (.pair (.int .i64) (.pair (.int .i64) .unit)))), .val), (.bool, .val)]⟩
 def h28 : Hint := (.seq .leaf
   (.seq (.seq .leaf
   (.block ⟨[((.ptr 57 (.pair (.int .i64) (.pair (.int .i64) (.pair (.int .i64) (.pair (.int .i64) .unit))))), (.ow .sh), (2, 0))], [((2, 0), (.own 0))]⟩ true
     (.seq .leaf
     (.cond none
       (.seq .leaf
       .leaf)
       (.seq .leaf
       (.cond none
         (.seq .leaf
         .leaf)
         .leaf))))))
   (.seq .leaf
   .leaf)))
def d28_K1  : ((((Int × (Int × (Int × (Int × Unit)))) × Unit) × Unit) → (Option (((Int × (Int × (Int × (Int × Unit)))) × (Bool × Unit)) × Unit))) :=
  (fun (x2 : (((Int × (Int × (Int × (Int × Unit)))) × Unit) × Unit)) => (Option.some ((((0 : Int), ((0 : Int), ((0 : Int), ((0 : Int), ())))), (Bool.false, ())), ())))
def d28 : (Nat → ((ByteArray × Unit) → (Option (((Int × (Int × (Int × (Int × Unit)))) × (Bool × Unit)) × Unit)))) :=
  (fun (x0 : Nat) => (fun (x1 : (ByteArray × Unit)) => (shr d28_K1 (fun (x2 : ((((Int × (Int × (Int × (Int × Unit)))) × Unit) × Unit) → (Option (((Int × (Int × (Int × (Int × Unit)))) × (Bool × Unit)) × Unit)))) => (lt ((ByteArray.toList x1.1) == (ByteArray.toList (ByteArray.mk (List.toArray ((109 : UInt8) :: ((101 : UInt8) :: ((115 : UInt8) :: ((115 : UInt8) :: ((97 : UInt8) :: ((103 : UInt8) :: ((101 : UInt8) :: ([] : List UInt8)))))))))))) fun (x3 : Bool) =>
  (if (x3 = Bool.true) then
  (Option.some ((((1 : Int), ((64 : Int), ((1 : Int), ((16 : Int), ())))), (Bool.true, ())), ()))
  else (lt ((ByteArray.toList x1.1) == (ByteArray.toList (ByteArray.mk (List.toArray ((119 : UInt8) :: ((97 : UInt8) :: ((107 : UInt8) :: ((101 : UInt8) :: ([] : List UInt8))))))))) fun (x4 : Bool) =>
  (if (x4 = Bool.true) then
  (Option.some ((((2 : Int), ((32 : Int), ((0 : Int), ((0 : Int), ())))), (Bool.true, ())), ()))
  else (x2 ((((0 : Int), ((0 : Int), ((0 : Int), ((0 : Int), ())))), ()), ()))))))))))
theorem k28 : c_fn Tryd.prog [] Tryd.f28 s28 h28 = some d28 := by kernel_rfl
/-- strconv.Itoa -/
def s30 : Sig := ⟨[((.int .i64), .val)], [(.str, .val)]⟩
def d30 (_ : Nat) (x : Int × Unit) : Option ((ByteArray × Unit) × Unit) := if inI x.1 then some ((⟨(Lib.itoa x.1).toArray⟩, ()), ()) else none
/-- strconv.FormatInt -/
def s31 : Sig := ⟨[((.int .i64), .val), ((.int .i64), .val)], [(.str, .val)]⟩
def d31 (_ : Nat) (x : Int × Int × Unit) : Option ((ByteArray × Unit) × Unit) := if x.2.1 = 10 ∧ inI x.1 then some ((⟨(Lib.itoa x.1).toArray⟩, ()), ()) else none
/-- strings.Join -/
def s32 : Sig := ⟨[((.sl 9 .str), .val), (.str, .val)], [(.str, .val)]⟩
def d32 (_ : Nat) (x : List ByteArray × ByteArray × Unit) : Option ((ByteArray × Unit) × Unit) := if x.1.length ≤ 140737488355328 ∧ (joinL x.1 x.2.1).length ≤ 140737488355328 then some ((⟨(joinL x.1 x.2.1).toArray⟩, ()), ()) else none
/-- bulkhead/script.Show -/
def s9 : Sig := ⟨[((.pair (.int .i64) (.pair (.int .i64) (.pair (.int .i64) (.pair (.sl 2 (.int .i64)) .unit)))), .val)], [(.str, .val), (.bool, .val)]⟩
 def h9 : Hint := (.seq .leaf
   (.seq .leaf
   (.seq (.seq .leaf
   (.cond none
     (.seq .leaf
     .leaf)
     .leaf))
   (.seq .leaf
   (.seq (.seq .leaf
   (.block ⟨[((.sl 9 .str), (.ow .sh), (6, 0))], [((6, 0), (.own 0))]⟩ true
     (.loop ⟨[((.sl 9 .str), (.ow .sh), (6, 0))], [((69, 0), (.val (.int .i64))), ((6, 0), (.own 0)), ((67, 0), (.val (.sl 2 (.int .i64)))), ((68, 0), (.val (.int .i64)))]⟩
       (.seq .leaf
       (.seq (.cond none
         .leaf
         .leaf)
       (.seq (.block ⟨[((.sl 9 .str), (.ow .sh), (6, 0))], [((6, 0), (.own 0)), ((67, 0), (.val (.sl 2 (.int .i64)))), ((68, 0), (.val (.int .i64))), ((69, 0), (.val (.int .i64)))]⟩ true
         (.seq .leaf
         .leaf))
       .leaf))))))
   (.seq .leaf
   .leaf))))))
def d9_K1 (x0 : Nat) : ((((List ByteArray) × Unit) × Unit) → (Option ((ByteArray × (Bool × Unit)) × Unit))) :=
  (fun (x22 : (((List ByteArray) × Unit) × Unit)) => (Option.bind (d32 x0 (x22.1.1, ((ByteArray.mk (List.toArray ((32 : UInt8) :: ([] : List UInt8)))), ()))) fun (x23 : ((ByteArray × Unit) × Unit)) =>
  (Option.some ((x23.1.1, (Bool.true, ())), ()))))
def d9_K2 (x23 : ((((List ByteArray) × Unit) × (Int × ((List Int) × (Int × Unit)))) → (Option ((ByteArray × (Bool × Unit)) × Unit)))) : ((((List ByteArray) × Unit) × ((List Int) × (Int × (Int × Unit)))) → (Option ((ByteArray × (Bool × Unit)) × Unit))) :=
  (fun (x26 : (((List ByteArray) × Unit) × ((List Int) × (Int × (Int × Unit))))) => (x23 ((x26.1.1, ()), ((Go.IntKind.wrap Go.IntKind.i64 (x26.2.2.2.1 + (1 : Int))), (x26.2.1, (x26.2.2.1, ()))))))
def d9_L3 (x0 : Nat) (x22 : ((((List ByteArray) × Unit) × Unit) → (Option ((ByteArray × (Bool × Unit)) × Unit)))) : (((((List ByteArray) × Unit) × (Int × ((List Int) × (Int × Unit)))) → (Option ((ByteArray × (Bool × Unit)) × Unit))) → ((((List ByteArray) × Unit) × (Int × ((List Int) × (Int × Unit)))) → (Option ((ByteArray × (Bool × Unit)) × Unit)))) :=
  (fun (x23 : ((((List ByteArray) × Unit) × (Int × ((List Int) × (Int × Unit)))) → (Option ((ByteArray × (Bool × Unit)) × Unit)))) => (fun (x24 : (((List ByteArray) × Unit) × (Int × ((List Int) × (Int × Unit))))) => (lt (Decidable.decide (x24.2.1 < x24.2.2.2.1)) fun (x25 : Bool) =>
  (if (x25 = Bool.true) then
  (shr (d9_K2 x23) (fun (x26 : ((((List ByteArray) × Unit) × ((List Int) × (Int × (Int × Unit)))) → (Option ((ByteArray × (Bool × Unit)) × Unit)))) => (if (((Decidable.decide ((0 : Int) ≤ x24.2.1)) && (Decidable.decide (x24.2.1 < (((List.length x24.2.2.1) : Nat) : Int)))) = Bool.true) then
  (lt (List.getD x24.2.2.1 (Int.toNat x24.2.1) (0 : Int)) fun (x27 : Int) =>
  (Option.bind (d31 x0 (x27, ((10 : Int), ()))) fun (x28 : ((ByteArray × Unit) × Unit)) =>
  (lt (x28.1.1 :: ([] : List ByteArray)) fun (x29 : (List ByteArray)) =>
  (if ((Go.Lift.appFits (List.length x24.1.1) (List.length x29) (16 : Nat)) = Bool.true) then
  (x26 (((x24.1.1 ++ x29), ()), (x24.2.2.1, (x24.2.2.2.1, (x24.2.1, ())))))
  else (Option.none)))))
  else (Option.none))))
  else (x22 ((x24.1.1, ()), ()))))))
def d9 : (Nat → ((IN × Unit) → (Option ((ByteArray × (Bool × Unit)) × Unit)))) :=
  (fun (x0 : Nat) => (fun (x1 : (IN × Unit)) => (Option.bind (d29 x0 (x1.1.2.1, ())) fun (x2 : ((ByteArray × Unit) × Unit)) =>
  (Option.bind (d28 x0 (x2.1.1, ())) fun (x3 : (((Int × (Int × (Int × (Int × Unit)))) × (Bool × Unit)) × Unit)) =>
  (lt (Bool.not x3.1.2.1) fun (x4 : Bool) =>
  (lt (Decidable.decide (x1.1.1 < (0 : Int))) fun (x5 : Bool) =>
  (lt (if (x4 = Bool.true) then
  Bool.true
  else x5) fun (x6 : Bool) =>
  (lt (Decidable.decide (x1.1.1 ≥ (1099511627776 : Int))) fun (x7 : Bool) =>
  (lt (if (x6 = Bool.true) then
  Bool.true
  else x7) fun (x8 : Bool) =>
  (lt (Decidable.decide (x1.1.2.2.1 < (1 : Int))) fun (x9 : Bool) =>
  (lt (if (x8 = Bool.true) then
  Bool.true
  else x9) fun (x10 : Bool) =>
  (lt (Decidable.decide (x1.1.2.2.1 > x3.1.1.2.1)) fun (x11 : Bool) =>
  (lt (if (x10 = Bool.true) then
  Bool.true
  else x11) fun (x12 : Bool) =>
  (lt (((List.length x1.1.2.2.2.1) : Nat) : Int) fun (x13 : Int) =>
  (lt (Decidable.decide (x13 < x3.1.1.2.2.1)) fun (x14 : Bool) =>
  (lt (if (x12 = Bool.true) then
  Bool.true
  else x14) fun (x15 : Bool) =>
  (lt (((List.length x1.1.2.2.2.1) : Nat) : Int) fun (x16 : Int) =>
  (lt (Decidable.decide (x16 > x3.1.1.2.2.2.1)) fun (x17 : Bool) =>
  (lt (if (x15 = Bool.true) then
  Bool.true
  else x17) fun (x18 : Bool) =>
  (if (x18 = Bool.true) then
  (Option.some (((ByteArray.mk (List.toArray ([] : List UInt8))), (Bool.false, ())), ()))
  else (Option.bind (d30 x0 (x1.1.1, ())) fun (x19 : ((ByteArray × Unit) × Unit)) =>
  (Option.bind (d29 x0 (x1.1.2.1, ())) fun (x20 : ((ByteArray × Unit) × Unit)) =>
  (Option.bind (d30 x0 (x1.1.2.2.1, ())) fun (x21 : ((ByteArray × Unit) × Unit)) =>
  (shr (d9_K1 x0) (fun (x22 : ((((List ByteArray) × Unit) × Unit) → (Option ((ByteArray × (Bool × Unit)) × Unit)))) => (loopN (d9_L3 x0 x22) x0 (((x19.1.1 :: (x20.1.1 :: (x21.1.1 :: ([] : List ByteArray)))), ()), ((0 : Int), (x1.1.2.2.2.1, ((((List.length x1.1.2.2.2.1) : Nat) : Int), ()))))))))))))))))))))))))))))))
theorem k9 : c_fn Tryd.prog [(29, ⟨s29, d29⟩), (28, ⟨s28, d28⟩), (30, ⟨s30, d30⟩), (31, ⟨s31, d31⟩), (32, ⟨s32, d32⟩)] Tryd.f9 s9 h9 = some d9 := by kernel_rfl
/-- bulkhead/bulkheadlaw21.joined -/
def s18 : Sig := ⟨[((.sl 24 (.pair (.int .i64) (.pair (.int .i64) (.pair (.int .i64) (.pair (.sl 2 (.int .i64)) .unit))))), .val)], [((.sl 5 (.int .u8)), (.own (.ow .sh))), (.bool, .val)]⟩
 def h18 : Hint := (.seq .leaf
   (.seq .leaf
   (.seq (.seq .leaf
   (.block ⟨[((.sl 5 (.int .u8)), (.ow .sh), (4, 0))], [((4, 0), (.own 0))]⟩ true
     (.loop ⟨[((.sl 5 (.int .u8)), (.ow .sh), (4, 0))], [((5, 0), (.val (.int .i64))), ((4, 0), (.own 0)), ((0, 0), (.val (.sl 24 (.pair (.int .i64) (.pair (.int .i64) (.pair (.int .i64) (.pair (.sl 2 (.int .i64)) .unit)))))))]⟩
       (.seq (.seq .leaf
       (.cond none
         .leaf
         .leaf))
       (.seq (.block ⟨[((.sl 5 (.int .u8)), (.ow .sh), (4, 0))], [((4, 0), (.own 0)), ((0, 0), (.val (.sl 24 (.pair (.int .i64) (.pair (.int .i64) (.pair (.int .i64) (.pair (.sl 2 (.int .i64)) .unit))))))), ((5, 0), (.val (.int .i64)))]⟩ true
         (.seq .leaf
         (.seq (.seq .leaf
         (.cond none
           (.seq .leaf
           .leaf)
           .leaf))
         (.seq .leaf
         .leaf))))
       .leaf)))))
   (.seq .leaf
   .leaf))))
def d18_K1  : ((((List Int) × Unit) × Unit) → (Option (((List Int) × (Bool × Unit)) × Unit))) :=
  (fun (x2 : (((List Int) × Unit) × Unit)) => (Option.some ((x2.1.1, (Bool.true, ())), ())))
def d18_K2 (x3 : ((((List Int) × Unit) × (Int × ((List IN) × Unit))) → (Option (((List Int) × (Bool × Unit)) × Unit)))) : ((((List Int) × Unit) × ((List IN) × (Int × Unit))) → (Option (((List Int) × (Bool × Unit)) × Unit))) :=
  (fun (x7 : (((List Int) × Unit) × ((List IN) × (Int × Unit)))) => (x3 ((x7.1.1, ()), ((Go.IntKind.wrap Go.IntKind.i64 (x7.2.2.1 + (1 : Int))), (x7.2.1, ())))))
def d18_L3 (x0 : Nat) (x2 : ((((List Int) × Unit) × Unit) → (Option (((List Int) × (Bool × Unit)) × Unit)))) : (((((List Int) × Unit) × (Int × ((List IN) × Unit))) → (Option (((List Int) × (Bool × Unit)) × Unit))) → ((((List Int) × Unit) × (Int × ((List IN) × Unit))) → (Option (((List Int) × (Bool × Unit)) × Unit)))) :=
  (fun (x3 : ((((List Int) × Unit) × (Int × ((List IN) × Unit))) → (Option (((List Int) × (Bool × Unit)) × Unit)))) => (fun (x4 : (((List Int) × Unit) × (Int × ((List IN) × Unit)))) => (lt (((List.length x4.2.2.1) : Nat) : Int) fun (x5 : Int) =>
  (lt (Decidable.decide (x4.2.1 < x5)) fun (x6 : Bool) =>
  (if (x6 = Bool.true) then
  (shr (d18_K2 x3) (fun (x7 : ((((List Int) × Unit) × ((List IN) × (Int × Unit))) → (Option (((List Int) × (Bool × Unit)) × Unit)))) => (if (((Decidable.decide ((0 : Int) ≤ x4.2.1)) && (Decidable.decide (x4.2.1 < (((List.length x4.2.2.1) : Nat) : Int)))) = Bool.true) then
  (lt (List.getD x4.2.2.1 (Int.toNat x4.2.1) ((0 : Int), ((0 : Int), ((0 : Int), (([] : List Int), ()))))) fun (x8 : IN) =>
  (Option.bind (d9 x0 (x8, ())) fun (x9 : ((ByteArray × (Bool × Unit)) × Unit)) =>
  (lt (Bool.not x9.1.2.1) fun (x10 : Bool) =>
  (if (x10 = Bool.true) then
  (Option.some ((([] : List Int), (Bool.false, ())), ()))
  else (if ((Go.Lift.appFits (List.length x4.1.1) (List.length (Go.Lift.sbytes x9.1.1)) (1 : Nat)) = Bool.true) then
  (lt (x4.1.1 ++ (Go.Lift.sbytes x9.1.1)) fun (x11 : (List Int)) =>
  (lt ((10 : Int) :: ([] : List Int)) fun (x12 : (List Int)) =>
  (if ((Go.Lift.appFits (List.length x11) (List.length x12) (1 : Nat)) = Bool.true) then
  (x7 (((x11 ++ x12), ()), (x4.2.2.1, (x4.2.1, ()))))
  else (Option.none))))
  else (Option.none))))))
  else (Option.none))))
  else (x2 ((x4.1.1, ()), ())))))))
def d18 : (Nat → (((List IN) × Unit) → (Option (((List Int) × (Bool × Unit)) × Unit)))) :=
  (fun (x0 : Nat) => (fun (x1 : ((List IN) × Unit)) => (shr d18_K1 (fun (x2 : ((((List Int) × Unit) × Unit) → (Option (((List Int) × (Bool × Unit)) × Unit)))) => (loopN (d18_L3 x0 x2) x0 ((([] : List Int), ()), ((0 : Int), (x1.1, ()))))))))
theorem k18 : c_fn Tryd.prog [(9, ⟨s9, d9⟩)] Tryd.f18 s18 h18 = some d18 := by kernel_rfl
/-- bytes.Split -/
def s35 : Sig := ⟨[((.sl 5 (.int .u8)), .val), ((.sl 5 (.int .u8)), .val)], [((.sl 25 (.sl 5 (.int .u8))), (.own (.ow .sh)))]⟩
def d35 (_ : Nat) (x : List Int × List Int × Unit) : Option ((List (List Int) × Unit) × Unit) := if byteL x.1 = true ∧ byteL x.2.1 = true ∧ x.1.length < 4294967281 ∧ x.2.1.length = 1 then some (((Lib.splitK (u8s x.2.1) 0 (Lib.count (u8s x.1) (u8s x.2.1)) (u8s x.1)).map u8i, ()), ()) else none
/-- strings.SplitN -/
def s58 : Sig := ⟨[(.str, .val), (.str, .val), ((.int .i64), .val)], [((.sl 9 .str), (.own (.ow .sh)))]⟩
def d58 (_ : Nat) (x : ByteArray × ByteArray × Int × Unit) : Option ((List ByteArray × Unit) × Unit) := if x.1.size < 4294967281 ∧ 1 ≤ x.2.1.size ∧ 1 ≤ x.2.2.1 ∧ x.2.2.1 ≤ 9223372036854775807 then some ((Lib.splitB x.2.1 0 (min x.2.2.1.toNat (x.1.size + 1) - 1) x.1, ()), ()) else none
/-- bulkhead/script.number -/
def s59 : Sig := ⟨[(.str, .val)], [((.int .i64), .val)]⟩
def d59 (_ : Nat) (x : ByteArray × Unit) : Option ((Int × Unit) × Unit) := some ((if minus x.1 then RowKit.wrap64 (-(numF x.1 x.1.size 0 0)) else numF x.1 x.1.size 0 0, ()), ())
/-- bulkhead/script.line -/
def s36 : Sig := ⟨[(.str, .val)], [((.pair (.int .i64) (.pair (.int .i64) (.pair (.int .i64) (.pair (.sl 2 (.int .i64)) .unit)))), (.own (.pr .sh (.pr .sh (.pr .sh (.pr (.ow .sh) .sh)))))), (.bool, .val)]⟩
 def h36 : Hint := (.seq .leaf
   (.seq .leaf
   (.seq (.seq .leaf
   (.cond none
     (.seq .leaf
     .leaf)
     .leaf))
   (.seq .leaf
   (.seq .leaf
   (.seq (.seq (.pre ⟨[((.ptr 24 (.pair (.int .i64) (.pair (.int .i64) (.pair (.int .i64) (.pair (.sl 2 (.int .i64)) .unit))))), (.ow (.pr .sh (.pr .sh (.pr .sh (.pr (.ow .sh) .sh))))), (7, 0)), ((.ptr 24 (.pair (.int .i64) (.pair (.int .i64) (.pair (.int .i64) (.pair (.sl 2 (.int .i64)) .unit))))), (.ow (.pr .sh (.pr .sh (.pr .sh (.pr (.ow .sh) .sh))))), (2, 0))], [((7, 0), (.own 0)), ((2, 0), (.own 1)), ((0, 0), (.val .str)), ((6, 0), (.val .bool)), ((4, 0), (.val (.sl 9 .str)))]⟩ .leaf)
   (.block ⟨[((.ptr 24 (.pair (.int .i64) (.pair (.int .i64) (.pair (.int .i64) (.pair (.sl 2 (.int .i64)) .unit))))), (.ow (.pr .sh (.pr .sh (.pr .sh (.pr (.ow .sh) .sh))))), (2, 0)), ((.ptr 24 (.pair (.int .i64) (.pair (.int .i64) (.pair (.int .i64) (.pair (.sl 2 (.int .i64)) .unit))))), (.ow (.pr .sh (.pr .sh (.pr .sh (.pr (.ow .sh) .sh))))), (7, 0))], [((2, 0), (.own 0)), ((0, 0), (.val .str)), ((6, 0), (.val .bool)), ((7, 0), (.own 1))]⟩ true
     (.loop ⟨[((.ptr 24 (.pair (.int .i64) (.pair (.int .i64) (.pair (.int .i64) (.pair (.sl 2 (.int .i64)) .unit))))), (.ow (.pr .sh (.pr .sh (.pr .sh (.pr (.ow .sh) .sh))))), (7, 0)), ((.ptr 24 (.pair (.int .i64) (.pair (.int .i64) (.pair (.int .i64) (.pair (.sl 2 (.int .i64)) .unit))))), (.ow (.pr .sh (.pr .sh (.pr .sh (.pr (.ow .sh) .sh))))), (2, 0))], [((39, 0), (.val (.int .i64))), ((7, 0), (.own 0)), ((37, 0), (.val (.sl 9 .str))), ((2, 0), (.own 1)), ((0, 0), (.val .str)), ((6, 0), (.val .bool)), ((38, 0), (.val (.int .i64)))]⟩
       (.seq .leaf
       (.seq (.cond none
         .leaf
         .leaf)
       (.seq (.block ⟨[((.ptr 24 (.pair (.int .i64) (.pair (.int .i64) (.pair (.int .i64) (.pair (.sl 2 (.int .i64)) .unit))))), (.ow (.pr .sh (.pr .sh (.pr .sh (.pr (.ow .sh) .sh))))), (7, 0)), ((.ptr 24 (.pair (.int .i64) (.pair (.int .i64) (.pair (.int .i64) (.pair (.sl 2 (.int .i64)) .unit))))), (.ow (.pr .sh (.pr .sh (.pr .sh (.pr (.ow .sh) .sh))))), (2, 0))], [((7, 0), (.own 0)), ((37, 0), (.val (.sl 9 .str))), ((2, 0), (.own 1)), ((0, 0), (.val .str)), ((6, 0), (.val .bool)), ((38, 0), (.val (.int .i64))), ((39, 0), (.val (.int .i64)))]⟩ true
         (.seq .leaf
         .leaf))
       .leaf))))))
   (.seq .leaf
   (.seq .leaf
   .leaf))))))))
def d36_K1 (x0 : Nat) : (((IN × (IN × Unit)) × (ByteArray × (Bool × Unit))) → (Option ((IN × (Bool × Unit)) × Unit))) :=
  (fun (x12 : ((IN × (IN × Unit)) × (ByteArray × (Bool × Unit)))) => (Option.bind (d9 x0 (x12.1.2.1, ())) fun (x13 : ((ByteArray × (Bool × Unit)) × Unit)) =>
  (lt ((ByteArray.toList x13.1.1) == (ByteArray.toList x12.2.1)) fun (x14 : Bool) =>
  (Option.some ((x12.1.2.1, ((if (x12.2.2.1 = Bool.true) then
  x14
  else Bool.false), ())), ())))))
def d36_K2 (x13 : (((IN × (IN × Unit)) × (Int × ((List ByteArray) × (ByteArray × (Bool × (Int × Unit)))))) → (Option ((IN × (Bool × Unit)) × Unit)))) : (((IN × (IN × Unit)) × ((List ByteArray) × (ByteArray × (Bool × (Int × (Int × Unit)))))) → (Option ((IN × (Bool × Unit)) × Unit))) :=
  (fun (x16 : ((IN × (IN × Unit)) × ((List ByteArray) × (ByteArray × (Bool × (Int × (Int × Unit))))))) => (x13 ((x16.1.1, (x16.1.2.1, ())), ((Go.IntKind.wrap Go.IntKind.i64 (x16.2.2.2.2.2.1 + (1 : Int))), (x16.2.1, (x16.2.2.1, (x16.2.2.2.1, (x16.2.2.2.2.1, ()))))))))
def d36_L3 (x0 : Nat) (x12 : (((IN × (IN × Unit)) × (ByteArray × (Bool × Unit))) → (Option ((IN × (Bool × Unit)) × Unit)))) : ((((IN × (IN × Unit)) × (Int × ((List ByteArray) × (ByteArray × (Bool × (Int × Unit)))))) → (Option ((IN × (Bool × Unit)) × Unit))) → (((IN × (IN × Unit)) × (Int × ((List ByteArray) × (ByteArray × (Bool × (Int × Unit)))))) → (Option ((IN × (Bool × Unit)) × Unit)))) :=
  (fun (x13 : (((IN × (IN × Unit)) × (Int × ((List ByteArray) × (ByteArray × (Bool × (Int × Unit)))))) → (Option ((IN × (Bool × Unit)) × Unit)))) => (fun (x14 : ((IN × (IN × Unit)) × (Int × ((List ByteArray) × (ByteArray × (Bool × (Int × Unit))))))) => (lt (Decidable.decide (x14.2.1 < x14.2.2.2.2.2.1)) fun (x15 : Bool) =>
  (if (x15 = Bool.true) then
  (shr (d36_K2 x13) (fun (x16 : (((IN × (IN × Unit)) × ((List ByteArray) × (ByteArray × (Bool × (Int × (Int × Unit)))))) → (Option ((IN × (Bool × Unit)) × Unit)))) => (if (((Decidable.decide ((0 : Int) ≤ x14.2.1)) && (Decidable.decide (x14.2.1 < (((List.length x14.2.2.1) : Nat) : Int)))) = Bool.true) then
  (lt (List.getD x14.2.2.1 (Int.toNat x14.2.1) ByteArray.empty) fun (x17 : ByteArray) =>
  (Option.bind (d59 x0 (x17, ())) fun (x18 : ((Int × Unit) × Unit)) =>
  (lt (x18.1.1 :: ([] : List Int)) fun (x19 : (List Int)) =>
  (if ((Bool.true && (Go.Lift.appFits (List.length x14.1.1.2.2.2.1) (List.length x19) (8 : Nat))) = Bool.true) then
  (x16 (((x14.1.1.1, (x14.1.1.2.1, (x14.1.1.2.2.1, ((x14.1.1.2.2.2.1 ++ x19), x14.1.1.2.2.2.2)))), (x14.1.2.1, ())), (x14.2.2.1, (x14.2.2.2.1, (x14.2.2.2.2.1, (x14.2.2.2.2.2.1, (x14.2.1, ())))))))
  else (Option.none)))))
  else (Option.none))))
  else (x12 ((x14.1.2.1, (x14.1.1, ())), (x14.2.2.2.1, (x14.2.2.2.2.1, ()))))))))
def d36 : (Nat → ((ByteArray × Unit) → (Option ((IN × (Bool × Unit)) × Unit)))) :=
  (fun (x0 : Nat) => (fun (x1 : (ByteArray × Unit)) => (Option.bind (d58 x0 (x1.1, ((ByteArray.mk (List.toArray ((32 : UInt8) :: ([] : List UInt8)))), ((20 : Int), ())))) fun (x2 : (((List ByteArray) × Unit) × Unit)) =>
  (lt (((List.length x2.1.1) : Nat) : Int) fun (x3 : Int) =>
  (lt (Decidable.decide (x3 < (3 : Int))) fun (x4 : Bool) =>
  (if (x4 = Bool.true) then
  (Option.some ((((0 : Int), ((0 : Int), ((0 : Int), (([] : List Int), ())))), (Bool.false, ())), ()))
  else (if (((Decidable.decide ((0 : Int) ≤ (1 : Int))) && (Decidable.decide ((1 : Int) < (((List.length x2.1.1) : Nat) : Int)))) = Bool.true) then
  (if (((Decidable.decide ((Int.toNat (1 : Int)) < (List.length x2.1.1))) && Bool.true) = Bool.true) then
  (lt (List.getD x2.1.1 (Int.toNat (1 : Int)) ByteArray.empty) fun (x5 : ByteArray) =>
  (Option.bind (d28 x0 (x5, ())) fun (x6 : (((Int × (Int × (Int × (Int × Unit)))) × (Bool × Unit)) × Unit)) =>
  (if (((Decidable.decide ((0 : Int) ≤ (0 : Int))) && (Decidable.decide ((0 : Int) < (((List.length x2.1.1) : Nat) : Int)))) = Bool.true) then
  (if (((Decidable.decide ((Int.toNat (0 : Int)) < (List.length x2.1.1))) && Bool.true) = Bool.true) then
  (lt (List.getD x2.1.1 (Int.toNat (0 : Int)) ByteArray.empty) fun (x7 : ByteArray) =>
  (Option.bind (d59 x0 (x7, ())) fun (x8 : ((Int × Unit) × Unit)) =>
  (if (((Decidable.decide ((0 : Int) ≤ (2 : Int))) && (Decidable.decide ((2 : Int) < (((List.length x2.1.1) : Nat) : Int)))) = Bool.true) then
  (if (((Decidable.decide ((Int.toNat (2 : Int)) < (List.length x2.1.1))) && Bool.true) = Bool.true) then
  (lt (List.getD x2.1.1 (Int.toNat (2 : Int)) ByteArray.empty) fun (x9 : ByteArray) =>
  (Option.bind (d59 x0 (x9, ())) fun (x10 : ((Int × Unit) × Unit)) =>
  (if (((((Decidable.decide ((0 : Int) ≤ (3 : Int))) && Bool.true) && (Decidable.decide ((Int.toNat (3 : Int)) ≤ (List.length x2.1.1)))) && (Decidable.decide ((List.length x2.1.1) ≤ (List.length x2.1.1)))) = Bool.true) then
  (lt (List.drop (Int.toNat (3 : Int)) (List.take (List.length x2.1.1) x2.1.1)) fun (x11 : (List ByteArray)) =>
  (shr (d36_K1 x0) (fun (x12 : (((IN × (IN × Unit)) × (ByteArray × (Bool × Unit))) → (Option ((IN × (Bool × Unit)) × Unit)))) => (loopN (d36_L3 x0 x12) x0 (((x8.1.1, (x6.1.1.1, (x10.1.1, (([] : List Int), ())))), (((0 : Int), ((0 : Int), ((0 : Int), (([] : List Int), ())))), ())), ((0 : Int), (x11, (x1.1, (x6.1.2.1, ((((List.length x11) : Nat) : Int), ()))))))))))
  else (Option.none))))
  else (Option.none))
  else (Option.none))))
  else (Option.none))
  else (Option.none))))
  else (Option.none))
  else (Option.none))))))))
theorem k36 : c_fn Tryd.prog [(58, ⟨s58, d58⟩), (28, ⟨s28, d28⟩), (59, ⟨s59, d59⟩), (9, ⟨s9, d9⟩)] Tryd.f36 s36 h36 = some d36 := by kernel_rfl
/-- bulkhead/script.Read -/
def s13 : Sig := ⟨[((.sl 5 (.int .u8)), .val)], [((.sl 24 (.pair (.int .i64) (.pair (.int .i64) (.pair (.int .i64) (.pair (.sl 2 (.int .i64)) .unit))))), (.own (.ow (.pr .sh (.pr .sh (.pr .sh (.pr (.ow .sh) .sh))))))), ((.int .i64), .val), ((.int .i64), .val)]⟩
 def h13 : Hint := (.seq .leaf
   (.seq .leaf
   (.seq (.seq .leaf
   (.block ⟨[((.sl 24 (.pair (.int .i64) (.pair (.int .i64) (.pair (.int .i64) (.pair (.sl 2 (.int .i64)) .unit))))), (.ow (.pr .sh (.pr .sh (.pr .sh (.pr (.ow .sh) .sh))))), (5, 0))], [((5, 0), (.own 0))]⟩ true
     (.loop ⟨[((.sl 24 (.pair (.int .i64) (.pair (.int .i64) (.pair (.int .i64) (.pair (.sl 2 (.int .i64)) .unit))))), (.ow (.pr .sh (.pr .sh (.pr .sh (.pr (.ow .sh) .sh))))), (5, 0)), ((.sl 25 (.sl 5 (.int .u8))), (.ow .sh), (13, 0))], [((15, 0), (.val (.int .i64))), ((5, 0), (.own 0)), ((13, 0), (.own 1)), ((14, 0), (.val (.int .i64)))]⟩
       (.seq .leaf
       (.seq (.cond none
         .leaf
         .leaf)
       (.seq (.block ⟨[((.sl 24 (.pair (.int .i64) (.pair (.int .i64) (.pair (.int .i64) (.pair (.sl 2 (.int .i64)) .unit))))), (.ow (.pr .sh (.pr .sh (.pr .sh (.pr (.ow .sh) .sh))))), (5, 0)), ((.sl 25 (.sl 5 (.int .u8))), (.ow .sh), (13, 0))], [((5, 0), (.own 0)), ((13, 0), (.own 1)), ((14, 0), (.val (.int .i64))), ((15, 0), (.val (.int .i64)))]⟩ true
         (.seq .leaf
         (.seq (.seq .leaf
         (.cond none
           .leaf
           .leaf))
         (.seq (.seq .leaf
         (.cond none
           (.seq .leaf
           .leaf)
           .leaf))
         (.seq .leaf
         (.seq (.seq .leaf
         (.cond none
           (.seq .leaf
           .leaf)
           .leaf))
         .leaf))))))
       .leaf))))))
   (.seq .leaf
   .leaf))))
def d13_K1  : ((((List IN) × Unit) × Unit) → (Option (((List IN) × (Int × (Int × Unit))) × Unit))) :=
  (fun (x4 : (((List IN) × Unit) × Unit)) => (Option.some ((x4.1.1, ((0 : Int), ((0 : Int), ()))), ())))
def d13_K2 (x5 : ((((List IN) × ((List (List Int)) × Unit)) × (Int × (Int × Unit))) → (Option (((List IN) × (Int × (Int × Unit))) × Unit)))) : ((((List IN) × ((List (List Int)) × Unit)) × (Int × (Int × Unit))) → (Option (((List IN) × (Int × (Int × Unit))) × Unit))) :=
  (fun (x8 : (((List IN) × ((List (List Int)) × Unit)) × (Int × (Int × Unit)))) => (x5 ((x8.1.1, (x8.1.2.1, ())), ((Go.IntKind.wrap Go.IntKind.i64 (x8.2.2.1 + (1 : Int))), (x8.2.1, ())))))
def d13_L3 (x0 : Nat) (x4 : ((((List IN) × Unit) × Unit) → (Option (((List IN) × (Int × (Int × Unit))) × Unit)))) : (((((List IN) × ((List (List Int)) × Unit)) × (Int × (Int × Unit))) → (Option (((List IN) × (Int × (Int × Unit))) × Unit))) → ((((List IN) × ((List (List Int)) × Unit)) × (Int × (Int × Unit))) → (Option (((List IN) × (Int × (Int × Unit))) × Unit)))) :=
  (fun (x5 : ((((List IN) × ((List (List Int)) × Unit)) × (Int × (Int × Unit))) → (Option (((List IN) × (Int × (Int × Unit))) × Unit)))) => (fun (x6 : (((List IN) × ((List (List Int)) × Unit)) × (Int × (Int × Unit)))) => (lt (Decidable.decide (x6.2.1 < x6.2.2.1)) fun (x7 : Bool) =>
  (if (x7 = Bool.true) then
  (shr (d13_K2 x5) (fun (x8 : ((((List IN) × ((List (List Int)) × Unit)) × (Int × (Int × Unit))) → (Option (((List IN) × (Int × (Int × Unit))) × Unit)))) => (if (((Decidable.decide ((0 : Int) ≤ x6.2.1)) && (Decidable.decide (x6.2.1 < (((List.length x6.1.2.1) : Nat) : Int)))) = Bool.true) then
  (if (((Decidable.decide ((Int.toNat x6.2.1) < (List.length x6.1.2.1))) && Bool.true) = Bool.true) then
  (lt (List.getD x6.1.2.1 (Int.toNat x6.2.1) ([] : List Int)) fun (x9 : (List Int)) =>
  (lt (((List.length x9) : Nat) : Int) fun (x10 : Int) =>
  (lt (x10 == (0 : Int)) fun (x11 : Bool) =>
  (if (((Bool.not ((x11 == Bool.false) && Bool.true)) || ((Decidable.decide ((0 : Int) ≤ (0 : Int))) && (Decidable.decide ((0 : Int) < (((List.length x9) : Nat) : Int))))) = Bool.true) then
  (lt (List.getD x9 (Int.toNat (0 : Int)) (0 : Int)) fun (x12 : Int) =>
  (lt (x12 == (35 : Int)) fun (x13 : Bool) =>
  (lt (if (x11 = Bool.true) then
  Bool.true
  else x13) fun (x14 : Bool) =>
  (if (x14 = Bool.true) then
  (x8 ((x6.1.1, (x6.1.2.1, ())), (x6.2.2.1, (x6.2.1, ()))))
  else (lt (((List.length x6.1.1) : Nat) : Int) fun (x15 : Int) =>
  (lt (x15 == (65536 : Int)) fun (x16 : Bool) =>
  (if (x16 = Bool.true) then
  (Option.some ((([] : List IN), ((1 : Int), ((Go.IntKind.wrap Go.IntKind.i64 (x6.2.1 + (1 : Int))), ()))), ()))
  else (lt (Go.Lift.bstr x9) fun (x17 : ByteArray) =>
  (Option.bind (d36 x0 (x17, ())) fun (x18 : ((IN × (Bool × Unit)) × Unit)) =>
  (lt (Bool.not x18.1.2.1) fun (x19 : Bool) =>
  (if (x19 = Bool.true) then
  (Option.some ((([] : List IN), ((20 : Int), ((Go.IntKind.wrap Go.IntKind.i64 (x6.2.1 + (1 : Int))), ()))), ()))
  else (lt (x18.1.1 :: ([] : List IN)) fun (x20 : (List IN)) =>
  (if ((Go.Lift.appFits (List.length x6.1.1) (List.length x20) (48 : Nat)) = Bool.true) then
  (x8 (((x6.1.1 ++ x20), (x6.1.2.1, ())), (x6.2.2.1, (x6.2.1, ()))))
  else (Option.none))))))))))))))
  else (Option.none)))))
  else (Option.none))
  else (Option.none))))
  else (x4 ((x6.1.1, ()), ()))))))
def d13 : (Nat → (((List Int) × Unit) → (Option (((List IN) × (Int × (Int × Unit))) × Unit)))) :=
  (fun (x0 : Nat) => (fun (x1 : ((List Int) × Unit)) => (lt ((10 : Int) :: ([] : List Int)) fun (x2 : (List Int)) =>
  (if ((Bool.not (List.isEmpty x2)) = Bool.true) then
  (Option.bind (d35 x0 (x1.1, (x2, ()))) fun (x3 : (((List (List Int)) × Unit) × Unit)) =>
  (shr d13_K1 (fun (x4 : ((((List IN) × Unit) × Unit) → (Option (((List IN) × (Int × (Int × Unit))) × Unit)))) => (loopN (d13_L3 x0 x4) x0 ((([] : List IN), (x3.1.1, ())), ((0 : Int), ((((List.length x3.1.1) : Nat) : Int), ())))))))
  else (Option.none)))))
theorem k13 : c_fn Tryd.prog [(35, ⟨s35, d35⟩), (36, ⟨s36, d36⟩)] Tryd.f13 s13 h13 = some d13 := by kernel_rfl
/-- bulkhead/bulkheadref21.SameInput -/
def s38 : Sig := ⟨[((.pair (.int .i64) (.pair (.int .i64) (.pair (.int .i64) (.pair (.sl 2 (.int .i64)) .unit)))), .val), ((.pair (.int .i64) (.pair (.int .i64) (.pair (.int .i64) (.pair (.sl 2 (.int .i64)) .unit)))), .val)], [(.bool, .val)]⟩
 def h38 : Hint := (.seq .leaf
   (.seq (.seq .leaf
   (.cond none
     (.seq .leaf
     .leaf)
     .leaf))
   (.seq (.seq .leaf
   (.block ⟨[], []⟩ true
     (.loop ⟨[((.ptr 24 (.pair (.int .i64) (.pair (.int .i64) (.pair (.int .i64) (.pair (.sl 2 (.int .i64)) .unit))))), (.ow .sh), (3, 0)), ((.ptr 24 (.pair (.int .i64) (.pair (.int .i64) (.pair (.int .i64) (.pair (.sl 2 (.int .i64)) .unit))))), (.ow .sh), (2, 0))], [((5, 0), (.val (.int .i64))), ((3, 0), (.own 0)), ((2, 0), (.own 1))]⟩
       (.seq (.seq .leaf
       (.cond none
         .leaf
         .leaf))
       (.seq (.block ⟨[((.ptr 24 (.pair (.int .i64) (.pair (.int .i64) (.pair (.int .i64) (.pair (.sl 2 (.int .i64)) .unit))))), (.ow .sh), (3, 0)), ((.ptr 24 (.pair (.int .i64) (.pair (.int .i64) (.pair (.int .i64) (.pair (.sl 2 (.int .i64)) .unit))))), (.ow .sh), (2, 0))], [((3, 0), (.own 0)), ((2, 0), (.own 1)), ((5, 0), (.val (.int .i64)))]⟩ true
         (.seq .leaf
         (.cond none
           (.seq .leaf
           .leaf)
           .leaf)))
       .leaf)))))
   (.seq .leaf
   .leaf))))
def d38_K1 (x12 : (((IN × (IN × Unit)) × (Int × Unit)) → (Option ((Bool × Unit) × Unit)))) : (((IN × (IN × Unit)) × (Int × Unit)) → (Option ((Bool × Unit) × Unit))) :=
  (fun (x16 : ((IN × (IN × Unit)) × (Int × Unit))) => (x12 ((x16.1.1, (x16.1.2.1, ())), ((Go.IntKind.wrap Go.IntKind.i64 (x16.2.1 + (1 : Int))), ()))))
def d38_L2 (x11 : ((Unit × Unit) → (Option ((Bool × Unit) × Unit)))) : ((((IN × (IN × Unit)) × (Int × Unit)) → (Option ((Bool × Unit) × Unit))) → (((IN × (IN × Unit)) × (Int × Unit)) → (Option ((Bool × Unit) × Unit)))) :=
  (fun (x12 : (((IN × (IN × Unit)) × (Int × Unit)) → (Option ((Bool × Unit) × Unit)))) => (fun (x13 : ((IN × (IN × Unit)) × (Int × Unit))) => (lt (((List.length x13.1.2.1.2.2.2.1) : Nat) : Int) fun (x14 : Int) =>
  (lt (Decidable.decide (x13.2.1 < x14)) fun (x15 : Bool) =>
  (if (x15 = Bool.true) then
  (shr (d38_K1 x12) (fun (x16 : (((IN × (IN × Unit)) × (Int × Unit)) → (Option ((Bool × Unit) × Unit)))) => (if (((Decidable.decide ((0 : Int) ≤ x13.2.1)) && (Decidable.decide (x13.2.1 < (((List.length x13.1.2.1.2.2.2.1) : Nat) : Int)))) = Bool.true) then
  (lt (List.getD x13.1.2.1.2.2.2.1 (Int.toNat x13.2.1) (0 : Int)) fun (x17 : Int) =>
  (if (((Decidable.decide ((0 : Int) ≤ x13.2.1)) && (Decidable.decide (x13.2.1 < (((List.length x13.1.1.2.2.2.1) : Nat) : Int)))) = Bool.true) then
  (lt (List.getD x13.1.1.2.2.2.1 (Int.toNat x13.2.1) (0 : Int)) fun (x18 : Int) =>
  (lt (x17 != x18) fun (x19 : Bool) =>
  (if (x19 = Bool.true) then
  (Option.some ((Bool.false, ()), ()))
  else (x16 ((x13.1.1, (x13.1.2.1, ())), (x13.2.1, ()))))))
  else (Option.none)))
  else (Option.none))))
  else (x11 ((), ())))))))
def d38 : (Nat → ((IN × (IN × Unit)) → (Option ((Bool × Unit) × Unit)))) :=
  (fun (x0 : Nat) => (fun (x1 : (IN × (IN × Unit))) => (lt (x1.1.1 != x1.2.1.1) fun (x2 : Bool) =>
  (lt (x1.1.2.1 != x1.2.1.2.1) fun (x3 : Bool) =>
  (lt (if (x2 = Bool.true) then
  Bool.true
  else x3) fun (x4 : Bool) =>
  (lt (x1.1.2.2.1 != x1.2.1.2.2.1) fun (x5 : Bool) =>
  (lt (if (x4 = Bool.true) then
  Bool.true
  else x5) fun (x6 : Bool) =>
  (lt (((List.length x1.1.2.2.2.1) : Nat) : Int) fun (x7 : Int) =>
  (lt (((List.length x1.2.1.2.2.2.1) : Nat) : Int) fun (x8 : Int) =>
  (lt (x7 != x8) fun (x9 : Bool) =>
  (lt (if (x6 = Bool.true) then
  Bool.true
  else x9) fun (x10 : Bool) =>
  (if (x10 = Bool.true) then
  (Option.some ((Bool.false, ()), ()))
  else (shr (fun (x11 : (Unit × Unit)) => (Option.some ((Bool.true, ()), ()))) (fun (x11 : ((Unit × Unit) → (Option ((Bool × Unit) × Unit)))) => (loopN (d38_L2 x11) x0 ((x1.2.1, (x1.1, ())), ((0 : Int), ())))))))))))))))))
theorem k38 : c_fn Tryd.prog [] Tryd.f38 s38 h38 = some d38 := by kernel_rfl
/-- bulkhead/bulkheadref21.Same -/
def s15 : Sig := ⟨[((.sl 24 (.pair (.int .i64) (.pair (.int .i64) (.pair (.int .i64) (.pair (.sl 2 (.int .i64)) .unit))))), .val), ((.sl 24 (.pair (.int .i64) (.pair (.int .i64) (.pair (.int .i64) (.pair (.sl 2 (.int .i64)) .unit))))), .val)], [(.bool, .val)]⟩
 def h15 : Hint := (.seq .leaf
   (.seq (.seq .leaf
   (.cond none
     (.seq .leaf
     .leaf)
     .leaf))
   (.seq (.seq .leaf
   (.block ⟨[], []⟩ true
     (.loop ⟨[], [((5, 0), (.val (.int .i64))), ((1, 0), (.val (.sl 24 (.pair (.int .i64) (.pair (.int .i64) (.pair (.int .i64) (.pair (.sl 2 (.int .i64)) .unit))))))), ((0, 0), (.val (.sl 24 (.pair (.int .i64) (.pair (.int .i64) (.pair (.int .i64) (.pair (.sl 2 (.int .i64)) .unit)))))))]⟩
       (.seq (.seq .leaf
       (.cond none
         .leaf
         .leaf))
       (.seq (.block ⟨[], [((1, 0), (.val (.sl 24 (.pair (.int .i64) (.pair (.int .i64) (.pair (.int .i64) (.pair (.sl 2 (.int .i64)) .unit))))))), ((0, 0), (.val (.sl 24 (.pair (.int .i64) (.pair (.int .i64) (.pair (.int .i64) (.pair (.sl 2 (.int .i64)) .unit))))))), ((5, 0), (.val (.int .i64)))]⟩ true
         (.seq .leaf
         (.cond none
           (.seq .leaf
           .leaf)
           .leaf)))
       .leaf)))))
   (.seq .leaf
   .leaf))))
def d15_K1 (x6 : ((Unit × (Int × ((List IN) × ((List IN) × Unit)))) → (Option ((Bool × Unit) × Unit)))) : ((Unit × ((List IN) × ((List IN) × (Int × Unit)))) → (Option ((Bool × Unit) × Unit))) :=
  (fun (x10 : (Unit × ((List IN) × ((List IN) × (Int × Unit))))) => (x6 ((), ((Go.IntKind.wrap Go.IntKind.i64 (x10.2.2.2.1 + (1 : Int))), (x10.2.1, (x10.2.2.1, ()))))))
def d15_L2 (x0 : Nat) (x5 : ((Unit × Unit) → (Option ((Bool × Unit) × Unit)))) : (((Unit × (Int × ((List IN) × ((List IN) × Unit)))) → (Option ((Bool × Unit) × Unit))) → ((Unit × (Int × ((List IN) × ((List IN) × Unit)))) → (Option ((Bool × Unit) × Unit)))) :=
  (fun (x6 : ((Unit × (Int × ((List IN) × ((List IN) × Unit)))) → (Option ((Bool × Unit) × Unit)))) => (fun (x7 : (Unit × (Int × ((List IN) × ((List IN) × Unit))))) => (lt (((List.length x7.2.2.2.1) : Nat) : Int) fun (x8 : Int) =>
  (lt (Decidable.decide (x7.2.1 < x8)) fun (x9 : Bool) =>
  (if (x9 = Bool.true) then
  (shr (d15_K1 x6) (fun (x10 : ((Unit × ((List IN) × ((List IN) × (Int × Unit)))) → (Option ((Bool × Unit) × Unit)))) => (if (((Decidable.decide ((0 : Int) ≤ x7.2.1)) && (Decidable.decide (x7.2.1 < (((List.length x7.2.2.2.1) : Nat) : Int)))) = Bool.true) then
  (lt (List.getD x7.2.2.2.1 (Int.toNat x7.2.1) ((0 : Int), ((0 : Int), ((0 : Int), (([] : List Int), ()))))) fun (x11 : IN) =>
  (if (((Decidable.decide ((0 : Int) ≤ x7.2.1)) && (Decidable.decide (x7.2.1 < (((List.length x7.2.2.1) : Nat) : Int)))) = Bool.true) then
  (lt (List.getD x7.2.2.1 (Int.toNat x7.2.1) ((0 : Int), ((0 : Int), ((0 : Int), (([] : List Int), ()))))) fun (x12 : IN) =>
  (Option.bind (d38 x0 (x11, (x12, ()))) fun (x13 : ((Bool × Unit) × Unit)) =>
  (lt (Bool.not x13.1.1) fun (x14 : Bool) =>
  (if (x14 = Bool.true) then
  (Option.some ((Bool.false, ()), ()))
  else (x10 ((), (x7.2.2.1, (x7.2.2.2.1, (x7.2.1, ())))))))))
  else (Option.none)))
  else (Option.none))))
  else (x5 ((), ())))))))
def d15 : (Nat → (((List IN) × ((List IN) × Unit)) → (Option ((Bool × Unit) × Unit)))) :=
  (fun (x0 : Nat) => (fun (x1 : ((List IN) × ((List IN) × Unit))) => (lt (((List.length x1.1) : Nat) : Int) fun (x2 : Int) =>
  (lt (((List.length x1.2.1) : Nat) : Int) fun (x3 : Int) =>
  (lt (x2 != x3) fun (x4 : Bool) =>
  (if (x4 = Bool.true) then
  (Option.some ((Bool.false, ()), ()))
  else (shr (fun (x5 : (Unit × Unit)) => (Option.some ((Bool.true, ()), ()))) (fun (x5 : ((Unit × Unit) → (Option ((Bool × Unit) × Unit)))) => (loopN (d15_L2 x0 x5) x0 ((), ((0 : Int), (x1.2.1, (x1.1, ())))))))))))))
theorem k15 : c_fn Tryd.prog [(38, ⟨s38, d38⟩)] Tryd.f15 s15 h15 = some d15 := by kernel_rfl
/-- bulkhead/bulkheadlaw21.known -/
def s19 : Sig := ⟨[], [(.bool, .val)]⟩
 def h19 : Hint := (.seq .leaf
   (.seq .leaf
   (.seq .leaf
   (.seq .leaf
   (.seq (.pre ⟨[((.ptr 24 (.pair (.int .i64) (.pair (.int .i64) (.pair (.int .i64) (.pair (.sl 2 (.int .i64)) .unit))))), (.ow .sh), (1, 0)), ((.sl 24 (.pair (.int .i64) (.pair (.int .i64) (.pair (.int .i64) (.pair (.sl 2 (.int .i64)) .unit))))), (.ow (.pr .sh (.pr .sh (.pr .sh (.pr (.ow .sh) .sh))))), (4, 0))], [((1, 0), (.own 0)), ((4, 0), (.own 1)), ((6, 0), (.val (.int .i64))), ((5, 0), (.val (.int .i64))), ((2, 0), (.val .str)), ((3, 0), (.val .bool))]⟩ .leaf)
   .leaf)))))
def d19 : (Nat → (Unit → (Option ((Bool × Unit) × Unit)))) :=
  (fun (x0 : Nat) => (fun (x1 : Unit) => (lt ((5 : Int) :: ((Neg.neg (1 : Int)) :: ([] : List Int))) fun (x2 : (List Int)) =>
  (Option.bind (d9 x0 (((7 : Int), ((1 : Int), ((2 : Int), (x2, ())))), ())) fun (x3 : ((ByteArray × (Bool × Unit)) × Unit)) =>
  (lt ((35 : Int) :: ((10 : Int) :: ((55 : Int) :: ((32 : Int) :: ((109 : Int) :: ((101 : Int) :: ((115 : Int) :: ((115 : Int) :: ((97 : Int) :: ((103 : Int) :: ((101 : Int) :: ((32 : Int) :: ((50 : Int) :: ((32 : Int) :: ((53 : Int) :: ((32 : Int) :: ((45 : Int) :: ((49 : Int) :: ((10 : Int) :: ([] : List Int)))))))))))))))))))) fun (x4 : (List Int)) =>
  (if ((Bool.not (List.isEmpty x4)) = Bool.true) then
  (Option.bind (d13 x0 (x4, ())) fun (x5 : (((List IN) × (Int × (Int × Unit))) × Unit)) =>
  (lt ((ByteArray.toList x3.1.1) == (ByteArray.toList (ByteArray.mk (List.toArray ((55 : UInt8) :: ((32 : UInt8) :: ((109 : UInt8) :: ((101 : UInt8) :: ((115 : UInt8) :: ((115 : UInt8) :: ((97 : UInt8) :: ((103 : UInt8) :: ((101 : UInt8) :: ((32 : UInt8) :: ((50 : UInt8) :: ((32 : UInt8) :: ((53 : UInt8) :: ((32 : UInt8) :: ((45 : UInt8) :: ((49 : UInt8) :: ([] : List UInt8))))))))))))))))))))) fun (x6 : Bool) =>
  (lt (if (x3.1.2.1 = Bool.true) then
  x6
  else Bool.false) fun (x7 : Bool) =>
  (lt (x5.1.2.1 == (0 : Int)) fun (x8 : Bool) =>
  (lt (if (x7 = Bool.true) then
  x8
  else Bool.false) fun (x9 : Bool) =>
  (lt (x5.1.2.2.1 == (0 : Int)) fun (x10 : Bool) =>
  (lt (if (x9 = Bool.true) then
  x10
  else Bool.false) fun (x11 : Bool) =>
  (lt (((7 : Int), ((1 : Int), ((2 : Int), (x2, ())))) :: ([] : List IN)) fun (x12 : (List IN)) =>
  (Option.bind (if (((x11 == Bool.true) && Bool.true) = Bool.true) then
  (d15 x0 (x5.1.1, (x12, ())))
  else (Option.some ((Bool.false, ()), ()))) fun (x13 : ((Bool × Unit) × Unit)) =>
  (Option.some (((if (x11 = Bool.true) then
  x13.1.1
  else Bool.false), ()), ())))))))))))
  else (Option.none)))))))
theorem k19 : c_fn Tryd.prog [(9, ⟨s9, d9⟩), (13, ⟨s13, d13⟩), (15, ⟨s15, d15⟩)] Tryd.f19 s19 h19 = some d19 := by kernel_rfl
/-- bulkhead/bulkheadlaw21.ScriptText -/
def s4 : Sig := ⟨[((.sl 24 (.pair (.int .i64) (.pair (.int .i64) (.pair (.int .i64) (.pair (.sl 2 (.int .i64)) .unit))))), .val), ((.sl 5 (.int .u8)), .val)], [(.bool, .val)]⟩
 def h4 : Hint := (.seq .leaf
   (.seq .leaf
   (.seq (.seq .leaf
   (.block ⟨[((.sl 24 (.pair (.int .i64) (.pair (.int .i64) (.pair (.int .i64) (.pair (.sl 2 (.int .i64)) .unit))))), (.ow .sh), (5, 0))], [((5, 0), (.own 0)), ((1, 0), (.val (.sl 5 (.int .u8))))]⟩ true
     (.loop ⟨[((.sl 24 (.pair (.int .i64) (.pair (.int .i64) (.pair (.int .i64) (.pair (.sl 2 (.int .i64)) .unit))))), (.ow .sh), (5, 0))], [((6, 0), (.val (.int .i64))), ((0, 0), (.val (.sl 24 (.pair (.int .i64) (.pair (.int .i64) (.pair (.int .i64) (.pair (.sl 2 (.int .i64)) .unit))))))), ((5, 0), (.own 0)), ((1, 0), (.val (.sl 5 (.int .u8))))]⟩
       (.seq (.seq .leaf
       (.cond none
         .leaf
         .leaf))
       (.seq (.block ⟨[((.sl 24 (.pair (.int .i64) (.pair (.int .i64) (.pair (.int .i64) (.pair (.sl 2 (.int .i64)) .unit))))), (.ow .sh), (5, 0))], [((0, 0), (.val (.sl 24 (.pair (.int .i64) (.pair (.int .i64) (.pair (.int .i64) (.pair (.sl 2 (.int .i64)) .unit))))))), ((5, 0), (.own 0)), ((1, 0), (.val (.sl 5 (.int .u8)))), ((6, 0), (.val (.int .i64)))]⟩ true
         (.seq .leaf
         (.seq .leaf
         (.cond (some ⟨[((.sl 24 (.pair (.int .i64) (.pair (.int .i64) (.pair (.int .i64) (.pair (.sl 2 (.int .i64)) .unit))))), (.ow .sh), (5, 0))], [((0, 0), (.val (.sl 24 (.pair (.int .i64) (.pair (.int .i64) (.pair (.int .i64) (.pair (.sl 2 (.int .i64)) .unit))))))), ((5, 0), (.own 0)), ((1, 0), (.val (.sl 5 (.int .u8)))), ((6, 0), (.val (.int .i64)))]⟩)
           .leaf
           .leaf))))
       .leaf)))))
   (.seq .leaf
   (.seq .leaf
   (.seq (.seq .leaf
   (.cond none
     (.seq .leaf
     .leaf)
     .leaf))
   (.seq .leaf
   (.seq .leaf
   (.seq .leaf
   (.seq (.seq .leaf
   (.cond (some ⟨[((.sl 24 (.pair (.int .i64) (.pair (.int .i64) (.pair (.int .i64) (.pair (.sl 2 (.int .i64)) .unit))))), (.ow (.pr .sh (.pr .sh (.pr .sh (.pr (.ow .sh) .sh))))), (15, 0)), ((.sl 24 (.pair (.int .i64) (.pair (.int .i64) (.pair (.int .i64) (.pair (.sl 2 (.int .i64)) .unit))))), (.ow .sh), (5, 0))], [((15, 0), (.own 0)), ((5, 0), (.own 1)), ((17, 0), (.val (.int .i64))), ((18, 0), (.val (.int .i64))), ((16, 0), (.val (.int .i64)))]⟩)
     .leaf
     .leaf))
   (.seq .leaf
   .leaf)))))))))))
def d4_K1  : ((((List IN) × ((List IN) × Unit)) × (Int × (Int × (Int × Unit)))) → (Option ((Bool × Unit) × Unit))) :=
  (fun (x22 : (((List IN) × ((List IN) × Unit)) × (Int × (Int × (Int × Unit))))) => (lt (x22.2.2.2.1 == x22.2.2.1) fun (x23 : Bool) =>
  (lt (((List.length x22.1.2.1) : Nat) : Int) fun (x24 : Int) =>
  (lt (Go.IntKind.wrap Go.IntKind.i64 (x24 + (1 : Int))) fun (x25 : Int) =>
  (lt (x22.2.1 == x25) fun (x26 : Bool) =>
  (lt (if (x23 = Bool.true) then
  x26
  else Bool.false) fun (x27 : Bool) =>
  (lt (((List.length x22.1.1) : Nat) : Int) fun (x28 : Int) =>
  (lt (x28 == (0 : Int)) fun (x29 : Bool) =>
  (Option.some (((if (x27 = Bool.true) then
  x29
  else Bool.false), ()), ()))))))))))
def d4_K2 (x0 : Nat) : ((((List IN) × Unit) × ((List Int) × Unit)) → (Option ((Bool × Unit) × Unit))) :=
  (fun (x2 : (((List IN) × Unit) × ((List Int) × Unit))) => (Option.bind (d18 x0 (x2.1.1, ())) fun (x3 : (((List Int) × (Bool × Unit)) × Unit)) =>
  (Option.bind (d13 x0 (x3.1.1, ())) fun (x4 : (((List IN) × (Int × (Int × Unit))) × Unit)) =>
  (Option.bind (d19 x0 ()) fun (x5 : ((Bool × Unit) × Unit)) =>
  (lt (Bool.not x5.1.1) fun (x6 : Bool) =>
  (lt (Bool.not x3.1.2.1) fun (x7 : Bool) =>
  (lt (if (x6 = Bool.true) then
  Bool.true
  else x7) fun (x8 : Bool) =>
  (lt (x4.1.2.1 != (0 : Int)) fun (x9 : Bool) =>
  (lt (if (x8 = Bool.true) then
  Bool.true
  else x9) fun (x10 : Bool) =>
  (lt (x4.1.2.2.1 != (0 : Int)) fun (x11 : Bool) =>
  (lt (if (x10 = Bool.true) then
  Bool.true
  else x11) fun (x12 : Bool) =>
  (Option.bind (if (((x12 == Bool.false) && Bool.true) = Bool.true) then
  (d15 x0 (x4.1.1, (x2.1.1, ())))
  else (Option.some ((Bool.false, ()), ()))) fun (x13 : ((Bool × Unit) × Unit)) =>
  (lt (Bool.not x13.1.1) fun (x14 : Bool) =>
  (lt (if (x12 = Bool.true) then
  Bool.true
  else x14) fun (x15 : Bool) =>
  (if (x15 = Bool.true) then
  (Option.some ((Bool.false, ()), ()))
  else (lt ((33 : Int) :: ([] : List Int)) fun (x16 : (List Int)) =>
  (if ((Go.Lift.appFits (List.length x16) (List.length x2.2.1) (1 : Nat)) = Bool.true) then
  (lt (x16 ++ x2.2.1) fun (x17 : (List Int)) =>
  (if ((Go.Lift.appFits (List.length x3.1.1) (List.length x17) (1 : Nat)) = Bool.true) then
  (lt (x3.1.1 ++ x17) fun (x18 : (List Int)) =>
  (Option.bind (d13 x0 (x18, ())) fun (x19 : (((List IN) × (Int × (Int × Unit))) × Unit)) =>
  (lt (((List.length x2.1.1) : Nat) : Int) fun (x20 : Int) =>
  (lt (x20 == (65536 : Int)) fun (x21 : Bool) =>
  (shr d4_K1 (fun (x22 : ((((List IN) × ((List IN) × Unit)) × (Int × (Int × (Int × Unit)))) → (Option ((Bool × Unit) × Unit)))) => (if (x21 = Bool.true) then
  (x22 ((x19.1.1, (x2.1.1, ())), (x19.1.2.2.1, ((1 : Int), (x19.1.2.1, ())))))
  else (x22 ((x19.1.1, (x2.1.1, ())), (x19.1.2.2.1, ((20 : Int), (x19.1.2.1, ()))))))))))))
  else (Option.none)))
  else (Option.none))))))))))))))))))
def d4_K3 (x3 : ((((List IN) × Unit) × (Int × ((List IN) × ((List Int) × Unit)))) → (Option ((Bool × Unit) × Unit)))) : ((((List IN) × Unit) × ((List IN) × ((List Int) × (Int × Unit)))) → (Option ((Bool × Unit) × Unit))) :=
  (fun (x10 : (((List IN) × Unit) × ((List IN) × ((List Int) × (Int × Unit))))) => (x3 ((x10.1.1, ()), ((Go.IntKind.wrap Go.IntKind.i64 (x10.2.2.2.1 + (1 : Int))), (x10.2.1, (x10.2.2.1, ()))))))
def d4_K4 (x10 : ((((List IN) × Unit) × ((List IN) × ((List Int) × (Int × Unit)))) → (Option ((Bool × Unit) × Unit)))) : ((((List IN) × Unit) × ((List IN) × ((List Int) × (Int × Unit)))) → (Option ((Bool × Unit) × Unit))) :=
  (fun (x13 : (((List IN) × Unit) × ((List IN) × ((List Int) × (Int × Unit))))) => (x10 ((x13.1.1, ()), (x13.2.1, (x13.2.2.1, (x13.2.2.2.1, ()))))))
def d4_L5 (x0 : Nat) (x2 : ((((List IN) × Unit) × ((List Int) × Unit)) → (Option ((Bool × Unit) × Unit)))) : (((((List IN) × Unit) × (Int × ((List IN) × ((List Int) × Unit)))) → (Option ((Bool × Unit) × Unit))) → ((((List IN) × Unit) × (Int × ((List IN) × ((List Int) × Unit)))) → (Option ((Bool × Unit) × Unit)))) :=
  (fun (x3 : ((((List IN) × Unit) × (Int × ((List IN) × ((List Int) × Unit)))) → (Option ((Bool × Unit) × Unit)))) => (fun (x4 : (((List IN) × Unit) × (Int × ((List IN) × ((List Int) × Unit))))) => (lt (((List.length x4.2.2.1) : Nat) : Int) fun (x5 : Int) =>
  (lt (Decidable.decide (x4.2.1 < x5)) fun (x6 : Bool) =>
  (lt (((List.length x4.1.1) : Nat) : Int) fun (x7 : Int) =>
  (lt (Decidable.decide (x7 < (65536 : Int))) fun (x8 : Bool) =>
  (lt (if (x6 = Bool.true) then
  x8
  else Bool.false) fun (x9 : Bool) =>
  (if (x9 = Bool.true) then
  (shr (d4_K3 x3) (fun (x10 : ((((List IN) × Unit) × ((List IN) × ((List Int) × (Int × Unit)))) → (Option ((Bool × Unit) × Unit)))) => (if (((Decidable.decide ((0 : Int) ≤ x4.2.1)) && (Decidable.decide (x4.2.1 < (((List.length x4.2.2.1) : Nat) : Int)))) = Bool.true) then
  (lt (List.getD x4.2.2.1 (Int.toNat x4.2.1) ((0 : Int), ((0 : Int), ((0 : Int), (([] : List Int), ()))))) fun (x11 : IN) =>
  (Option.bind (d9 x0 (x11, ())) fun (x12 : ((ByteArray × (Bool × Unit)) × Unit)) =>
  (shr (d4_K4 x10) (fun (x13 : ((((List IN) × Unit) × ((List IN) × ((List Int) × (Int × Unit)))) → (Option ((Bool × Unit) × Unit)))) => (if (x12.1.2.1 = Bool.true) then
  (if (((Decidable.decide ((0 : Int) ≤ x4.2.1)) && (Decidable.decide (x4.2.1 < (((List.length x4.2.2.1) : Nat) : Int)))) = Bool.true) then
  (lt (List.getD x4.2.2.1 (Int.toNat x4.2.1) ((0 : Int), ((0 : Int), ((0 : Int), (([] : List Int), ()))))) fun (x14 : IN) =>
  (lt (x14 :: ([] : List IN)) fun (x15 : (List IN)) =>
  (if ((Go.Lift.appFits (List.length x4.1.1) (List.length x15) (48 : Nat)) = Bool.true) then
  (x13 (((x4.1.1 ++ x15), ()), (x4.2.2.1, (x4.2.2.2.1, (x4.2.1, ())))))
  else (Option.none))))
  else (Option.none))
  else (x13 ((x4.1.1, ()), (x4.2.2.1, (x4.2.2.2.1, (x4.2.1, ()))))))))))
  else (Option.none))))
  else (x2 ((x4.1.1, ()), (x4.2.2.2.1, ())))))))))))
def d4 : (Nat → (((List IN) × ((List Int) × Unit)) → (Option ((Bool × Unit) × Unit)))) :=
  (fun (x0 : Nat) => (fun (x1 : ((List IN) × ((List Int) × Unit))) => (shr (d4_K2 x0) (fun (x2 : ((((List IN) × Unit) × ((List Int) × Unit)) → (Option ((Bool × Unit) × Unit)))) => (loopN (d4_L5 x0 x2) x0 ((([] : List IN), ()), ((0 : Int), (x1.1, (x1.2.1, ())))))))))
theorem k4 : c_fn Tryd.prog [(9, ⟨s9, d9⟩), (18, ⟨s18, d18⟩), (13, ⟨s13, d13⟩), (19, ⟨s19, d19⟩), (15, ⟨s15, d15⟩)] Tryd.f4 s4 h4 = some d4 := by kernel_rfl
/-- bulkhead/bulkheadlaw21.passed -/
def s20 : Sig := ⟨[((.sl 5 (.int .u8)), .val)], [((.sl 5 (.int .u8)), (.own (.ow .sh)))]⟩
 def h20 : Hint := (.seq .leaf
   (.seq .leaf
   (.seq .leaf
   (.seq (.seq .leaf
   (.block ⟨[((.sl 5 (.int .u8)), (.ow .sh), (3, 0))], [((3, 0), (.own 0))]⟩ true
     (.loop ⟨[((.sl 5 (.int .u8)), (.ow .sh), (3, 0))], [((5, 0), (.val (.int .i64))), ((4, 0), (.val (.int .i64))), ((0, 0), (.val (.sl 5 (.int .u8)))), ((3, 0), (.own 0))]⟩
       (.seq (.seq .leaf
       (.cond none
         .leaf
         .leaf))
       (.seq (.block ⟨[((.sl 5 (.int .u8)), (.ow .sh), (3, 0))], [((4, 0), (.val (.int .i64))), ((0, 0), (.val (.sl 5 (.int .u8)))), ((3, 0), (.own 0)), ((5, 0), (.val (.int .i64)))]⟩ true
         (.seq (.seq .leaf
         (.cond none
           .leaf
           .leaf))
         (.seq (.seq .leaf
         (.cond (some ⟨[((.sl 5 (.int .u8)), (.ow .sh), (3, 0))], [((0, 0), (.val (.sl 5 (.int .u8)))), ((3, 0), (.own 0)), ((5, 0), (.val (.int .i64)))]⟩)
           (.seq .leaf
           .leaf)
           .leaf))
         .leaf)))
       .leaf)))))
   (.seq .leaf
   .leaf)))))
def d20_K1  : ((((List Int) × Unit) × Unit) → (Option (((List Int) × Unit) × Unit))) :=
  (fun (x2 : (((List Int) × Unit) × Unit)) => (Option.some ((x2.1.1, ()), ())))
def d20_K2 (x3 : ((((List Int) × Unit) × (Int × (Int × ((List Int) × Unit)))) → (Option (((List Int) × Unit) × Unit)))) : ((((List Int) × Unit) × (Int × ((List Int) × (Int × Unit)))) → (Option (((List Int) × Unit) × Unit))) :=
  (fun (x7 : (((List Int) × Unit) × (Int × ((List Int) × (Int × Unit))))) => (x3 ((x7.1.1, ()), ((Go.IntKind.wrap Go.IntKind.i64 (x7.2.2.2.1 + (1 : Int))), (x7.2.1, (x7.2.2.1, ()))))))
def d20_K3 (x7 : ((((List Int) × Unit) × (Int × ((List Int) × (Int × Unit)))) → (Option (((List Int) × Unit) × Unit)))) : ((((List Int) × Unit) × ((List Int) × (Int × Unit))) → (Option (((List Int) × Unit) × Unit))) :=
  (fun (x17 : (((List Int) × Unit) × ((List Int) × (Int × Unit)))) => (x7 ((x17.1.1, ()), ((Go.IntKind.wrap Go.IntKind.i64 (x17.2.2.1 + (1 : Int))), (x17.2.1, (x17.2.2.1, ()))))))
def d20_L4 (x2 : ((((List Int) × Unit) × Unit) → (Option (((List Int) × Unit) × Unit)))) : (((((List Int) × Unit) × (Int × (Int × ((List Int) × Unit)))) → (Option (((List Int) × Unit) × Unit))) → ((((List Int) × Unit) × (Int × (Int × ((List Int) × Unit)))) → (Option (((List Int) × Unit) × Unit)))) :=
  (fun (x3 : ((((List Int) × Unit) × (Int × (Int × ((List Int) × Unit)))) → (Option (((List Int) × Unit) × Unit)))) => (fun (x4 : (((List Int) × Unit) × (Int × (Int × ((List Int) × Unit))))) => (lt (((List.length x4.2.2.2.1) : Nat) : Int) fun (x5 : Int) =>
  (lt (Decidable.decide (x4.2.1 ≤ x5)) fun (x6 : Bool) =>
  (if (x6 = Bool.true) then
  (shr (d20_K2 x3) (fun (x7 : ((((List Int) × Unit) × (Int × ((List Int) × (Int × Unit)))) → (Option (((List Int) × Unit) × Unit)))) => (lt (((List.length x4.2.2.2.1) : Nat) : Int) fun (x8 : Int) =>
  (lt (Decidable.decide (x4.2.1 < x8)) fun (x9 : Bool) =>
  (if (((Bool.not ((x9 == Bool.true) && Bool.true)) || ((Decidable.decide ((0 : Int) ≤ x4.2.1)) && (Decidable.decide (x4.2.1 < (((List.length x4.2.2.2.1) : Nat) : Int))))) = Bool.true) then
  (lt (List.getD x4.2.2.2.1 (Int.toNat x4.2.1) (0 : Int)) fun (x10 : Int) =>
  (lt (x10 != (10 : Int)) fun (x11 : Bool) =>
  (lt (if (x9 = Bool.true) then
  x11
  else Bool.false) fun (x12 : Bool) =>
  (if (x12 = Bool.true) then
  (x7 ((x4.1.1, ()), (x4.2.2.1, (x4.2.2.2.1, (x4.2.1, ())))))
  else (lt (Decidable.decide (x4.2.1 > x4.2.2.1)) fun (x13 : Bool) =>
  (if (((Bool.not ((x13 == Bool.true) && Bool.true)) || ((Decidable.decide ((0 : Int) ≤ x4.2.2.1)) && (Decidable.decide (x4.2.2.1 < (((List.length x4.2.2.2.1) : Nat) : Int))))) = Bool.true) then
  (lt (List.getD x4.2.2.2.1 (Int.toNat x4.2.2.1) (0 : Int)) fun (x14 : Int) =>
  (lt (x14 != (35 : Int)) fun (x15 : Bool) =>
  (lt (if (x13 = Bool.true) then
  x15
  else Bool.false) fun (x16 : Bool) =>
  (shr (d20_K3 x7) (fun (x17 : ((((List Int) × Unit) × ((List Int) × (Int × Unit))) → (Option (((List Int) × Unit) × Unit)))) => (if (x16 = Bool.true) then
  (if (((((Decidable.decide ((0 : Int) ≤ x4.2.2.1)) && (Decidable.decide ((0 : Int) ≤ x4.2.1))) && (Decidable.decide ((Int.toNat x4.2.2.1) ≤ (Int.toNat x4.2.1)))) && (Decidable.decide ((Int.toNat x4.2.1) ≤ (List.length x4.2.2.2.1)))) = Bool.true) then
  (lt (List.drop (Int.toNat x4.2.2.1) (List.take (Int.toNat x4.2.1) x4.2.2.2.1)) fun (x18 : (List Int)) =>
  (if ((Go.Lift.appFits (List.length x4.1.1) (List.length x18) (1 : Nat)) = Bool.true) then
  (lt (x4.1.1 ++ x18) fun (x19 : (List Int)) =>
  (lt ((10 : Int) :: ([] : List Int)) fun (x20 : (List Int)) =>
  (if ((Go.Lift.appFits (List.length x19) (List.length x20) (1 : Nat)) = Bool.true) then
  (x17 (((x19 ++ x20), ()), (x4.2.2.2.1, (x4.2.1, ()))))
  else (Option.none))))
  else (Option.none)))
  else (Option.none))
  else (x17 ((x4.1.1, ()), (x4.2.2.2.1, (x4.2.1, ()))))))))))
  else (Option.none)))))))
  else (Option.none))))))
  else (x2 ((x4.1.1, ()), ())))))))
def d20 : (Nat → (((List Int) × Unit) → (Option (((List Int) × Unit) × Unit)))) :=
  (fun (x0 : Nat) => (fun (x1 : ((List Int) × Unit)) => (shr d20_K1 (fun (x2 : ((((List Int) × Unit) × Unit) → (Option (((List Int) × Unit) × Unit)))) => (loopN (d20_L4 x2) x0 ((([] : List Int), ()), ((0 : Int), ((0 : Int), (x1.1, ())))))))))
theorem k20 : c_fn Tryd.prog [] Tryd.f20 s20 h20 = some d20 := by kernel_rfl
/-- bulkhead/bulkheadlaw21.same -/
def s16 : Sig := ⟨[((.sl 5 (.int .u8)), .val), ((.sl 5 (.int .u8)), .val)], [(.bool, .val)]⟩
 def h16 : Hint := (.seq .leaf
   (.seq (.seq .leaf
   (.cond none
     (.seq .leaf
     .leaf)
     .leaf))
   (.seq (.seq .leaf
   (.block ⟨[], []⟩ true
     (.loop ⟨[], [((5, 0), (.val (.int .i64))), ((1, 0), (.val (.sl 5 (.int .u8)))), ((0, 0), (.val (.sl 5 (.int .u8))))]⟩
       (.seq (.seq .leaf
       (.cond none
         .leaf
         .leaf))
       (.seq (.block ⟨[], [((1, 0), (.val (.sl 5 (.int .u8)))), ((0, 0), (.val (.sl 5 (.int .u8)))), ((5, 0), (.val (.int .i64)))]⟩ true
         (.seq .leaf
         (.cond none
           (.seq .leaf
           .leaf)
           .leaf)))
       .leaf)))))
   (.seq .leaf
   .leaf))))
def d16_K1 (x6 : ((Unit × (Int × ((List Int) × ((List Int) × Unit)))) → (Option ((Bool × Unit) × Unit)))) : ((Unit × ((List Int) × ((List Int) × (Int × Unit)))) → (Option ((Bool × Unit) × Unit))) :=
  (fun (x10 : (Unit × ((List Int) × ((List Int) × (Int × Unit))))) => (x6 ((), ((Go.IntKind.wrap Go.IntKind.i64 (x10.2.2.2.1 + (1 : Int))), (x10.2.1, (x10.2.2.1, ()))))))
def d16_L2 (x5 : ((Unit × Unit) → (Option ((Bool × Unit) × Unit)))) : (((Unit × (Int × ((List Int) × ((List Int) × Unit)))) → (Option ((Bool × Unit) × Unit))) → ((Unit × (Int × ((List Int) × ((List Int) × Unit)))) → (Option ((Bool × Unit) × Unit)))) :=
  (fun (x6 : ((Unit × (Int × ((List Int) × ((List Int) × Unit)))) → (Option ((Bool × Unit) × Unit)))) => (fun (x7 : (Unit × (Int × ((List Int) × ((List Int) × Unit))))) => (lt (((List.length x7.2.2.2.1) : Nat) : Int) fun (x8 : Int) =>
  (lt (Decidable.decide (x7.2.1 < x8)) fun (x9 : Bool) =>
  (if (x9 = Bool.true) then
  (shr (d16_K1 x6) (fun (x10 : ((Unit × ((List Int) × ((List Int) × (Int × Unit)))) → (Option ((Bool × Unit) × Unit)))) => (if (((Decidable.decide ((0 : Int) ≤ x7.2.1)) && (Decidable.decide (x7.2.1 < (((List.length x7.2.2.2.1) : Nat) : Int)))) = Bool.true) then
  (lt (List.getD x7.2.2.2.1 (Int.toNat x7.2.1) (0 : Int)) fun (x11 : Int) =>
  (if (((Decidable.decide ((0 : Int) ≤ x7.2.1)) && (Decidable.decide (x7.2.1 < (((List.length x7.2.2.1) : Nat) : Int)))) = Bool.true) then
  (lt (List.getD x7.2.2.1 (Int.toNat x7.2.1) (0 : Int)) fun (x12 : Int) =>
  (lt (x11 != x12) fun (x13 : Bool) =>
  (if (x13 = Bool.true) then
  (Option.some ((Bool.false, ()), ()))
  else (x10 ((), (x7.2.2.1, (x7.2.2.2.1, (x7.2.1, ()))))))))
  else (Option.none)))
  else (Option.none))))
  else (x5 ((), ())))))))
def d16 : (Nat → (((List Int) × ((List Int) × Unit)) → (Option ((Bool × Unit) × Unit)))) :=
  (fun (x0 : Nat) => (fun (x1 : ((List Int) × ((List Int) × Unit))) => (lt (((List.length x1.1) : Nat) : Int) fun (x2 : Int) =>
  (lt (((List.length x1.2.1) : Nat) : Int) fun (x3 : Int) =>
  (lt (x2 != x3) fun (x4 : Bool) =>
  (if (x4 = Bool.true) then
  (Option.some ((Bool.false, ()), ()))
  else (shr (fun (x5 : (Unit × Unit)) => (Option.some ((Bool.true, ()), ()))) (fun (x5 : ((Unit × Unit) → (Option ((Bool × Unit) × Unit)))) => (loopN (d16_L2 x5) x0 ((), ((0 : Int), (x1.2.1, (x1.1, ())))))))))))))
theorem k16 : c_fn Tryd.prog [] Tryd.f16 s16 h16 = some d16 := by kernel_rfl
/-- bulkhead/bulkheadlaw21.ScriptReads -/
def s5 : Sig := ⟨[((.sl 5 (.int .u8)), .val)], [(.bool, .val)]⟩
 def h5 : Hint := (.seq .leaf
   (.seq .leaf
   (.seq (.seq .leaf
   (.cond none
     (.seq .leaf
     .leaf)
     .leaf))
   (.seq .leaf
   (.seq .leaf
   .leaf)))))
def d5 : (Nat → (((List Int) × Unit) → (Option ((Bool × Unit) × Unit)))) :=
  (fun (x0 : Nat) => (fun (x1 : ((List Int) × Unit)) => (if ((Go.Lift.appFits (List.length ([] : List Int)) (List.length x1.1) (1 : Nat)) = Bool.true) then
  (lt (([] : List Int) ++ x1.1) fun (x2 : (List Int)) =>
  (Option.bind (d13 x0 (x2, ())) fun (x3 : (((List IN) × (Int × (Int × Unit))) × Unit)) =>
  (lt (x3.1.2.1 != (0 : Int)) fun (x4 : Bool) =>
  (if (x4 = Bool.true) then
  (Option.bind (d19 x0 ()) fun (x5 : ((Bool × Unit) × Unit)) =>
  (lt (((List.length x3.1.1) : Nat) : Int) fun (x6 : Int) =>
  (lt (x6 == (0 : Int)) fun (x7 : Bool) =>
  (lt (if (x5.1.1 = Bool.true) then
  x7
  else Bool.false) fun (x8 : Bool) =>
  (lt (Decidable.decide (x3.1.2.2.1 ≥ (1 : Int))) fun (x9 : Bool) =>
  (lt (if (x8 = Bool.true) then
  x9
  else Bool.false) fun (x10 : Bool) =>
  (lt (x3.1.2.1 == (20 : Int)) fun (x11 : Bool) =>
  (lt (x3.1.2.1 == (1 : Int)) fun (x12 : Bool) =>
  (lt (if (x11 = Bool.true) then
  Bool.true
  else x12) fun (x13 : Bool) =>
  (Option.some (((if (x10 = Bool.true) then
  x13
  else Bool.false), ()), ())))))))))))
  else (Option.bind (d18 x0 (x3.1.1, ())) fun (x5 : (((List Int) × (Bool × Unit)) × Unit)) =>
  (Option.bind (d19 x0 ()) fun (x6 : ((Bool × Unit) × Unit)) =>
  (lt (x3.1.2.2.1 == (0 : Int)) fun (x7 : Bool) =>
  (lt (if (x6.1.1 = Bool.true) then
  x7
  else Bool.false) fun (x8 : Bool) =>
  (lt (if (x8 = Bool.true) then
  x5.1.2.1
  else Bool.false) fun (x9 : Bool) =>
  (Option.bind (if (((x9 == Bool.true) && Bool.true) = Bool.true) then
  (d20 x0 (x1.1, ()))
  else (Option.some ((([] : List Int), ()), ()))) fun (x10 : (((List Int) × Unit) × Unit)) =>
  (Option.bind (if (((x9 == Bool.true) && Bool.true) = Bool.true) then
  (d16 x0 (x5.1.1, (x10.1.1, ())))
  else (Option.some ((Bool.false, ()), ()))) fun (x11 : ((Bool × Unit) × Unit)) =>
  (Option.some (((if (x9 = Bool.true) then
  x11.1.1
  else Bool.false), ()), ())))))))))))))
  else (Option.none))))
theorem k5 : c_fn Tryd.prog [(13, ⟨s13, d13⟩), (19, ⟨s19, d19⟩), (18, ⟨s18, d18⟩), (20, ⟨s20, d20⟩), (16, ⟨s16, d16⟩)] Tryd.f5 s5 h5 = some d5 := by kernel_rfl
/-- bulkhead/bulkheadlaw21.sorted -/
def s21 : Sig := ⟨[((.sl 24 (.pair (.int .i64) (.pair (.int .i64) (.pair (.int .i64) (.pair (.sl 2 (.int .i64)) .unit))))), .val)], [((.sl 24 (.pair (.int .i64) (.pair (.int .i64) (.pair (.int .i64) (.pair (.sl 2 (.int .i64)) .unit))))), (.own (.ow .sh)))]⟩
 def h21 : Hint := (.seq .leaf
   (.seq .leaf
   (.seq (.seq .leaf
   (.block ⟨[((.sl 24 (.pair (.int .i64) (.pair (.int .i64) (.pair (.int .i64) (.pair (.sl 2 (.int .i64)) .unit))))), (.ow .sh), (3, 0))], [((3, 0), (.own 0))]⟩ true
     (.loop ⟨[((.sl 24 (.pair (.int .i64) (.pair (.int .i64) (.pair (.int .i64) (.pair (.sl 2 (.int .i64)) .unit))))), (.ow .sh), (3, 0))], [((4, 0), (.val (.int .i64))), ((0, 0), (.val (.sl 24 (.pair (.int .i64) (.pair (.int .i64) (.pair (.int .i64) (.pair (.sl 2 (.int .i64)) .unit))))))), ((3, 0), (.own 0))]⟩
       (.seq (.seq .leaf
       (.cond none
         .leaf
         .leaf))
       (.seq (.block ⟨[((.sl 24 (.pair (.int .i64) (.pair (.int .i64) (.pair (.int .i64) (.pair (.sl 2 (.int .i64)) .unit))))), (.ow .sh), (3, 0))], [((0, 0), (.val (.sl 24 (.pair (.int .i64) (.pair (.int .i64) (.pair (.int .i64) (.pair (.sl 2 (.int .i64)) .unit))))))), ((3, 0), (.own 0)), ((4, 0), (.val (.int .i64)))]⟩ true
         (.seq .leaf
         (.cond (some ⟨[((.sl 24 (.pair (.int .i64) (.pair (.int .i64) (.pair (.int .i64) (.pair (.sl 2 (.int .i64)) .unit))))), (.ow .sh), (3, 0))], [((0, 0), (.val (.sl 24 (.pair (.int .i64) (.pair (.int .i64) (.pair (.int .i64) (.pair (.sl 2 (.int .i64)) .unit))))))), ((3, 0), (.own 0)), ((4, 0), (.val (.int .i64)))]⟩)
           .leaf
           .leaf)))
       .leaf)))))
   (.seq .leaf
   .leaf))))
def d21_K1  : ((((List IN) × Unit) × Unit) → (Option (((List IN) × Unit) × Unit))) :=
  (fun (x2 : (((List IN) × Unit) × Unit)) => (Option.some ((x2.1.1, ()), ())))
def d21_K2 (x3 : ((((List IN) × Unit) × (Int × ((List IN) × Unit))) → (Option (((List IN) × Unit) × Unit)))) : ((((List IN) × Unit) × ((List IN) × (Int × Unit))) → (Option (((List IN) × Unit) × Unit))) :=
  (fun (x9 : (((List IN) × Unit) × ((List IN) × (Int × Unit)))) => (x3 ((x9.1.1, ()), ((Go.IntKind.wrap Go.IntKind.i64 (x9.2.2.1 + (1 : Int))), (x9.2.1, ())))))
def d21_K3 (x9 : ((((List IN) × Unit) × ((List IN) × (Int × Unit))) → (Option (((List IN) × Unit) × Unit)))) : ((((List IN) × Unit) × ((List IN) × (Int × Unit))) → (Option (((List IN) × Unit) × Unit))) :=
  (fun (x18 : (((List IN) × Unit) × ((List IN) × (Int × Unit)))) => (x9 ((x18.1.1, ()), (x18.2.1, (x18.2.2.1, ())))))
def d21_L4 (x2 : ((((List IN) × Unit) × Unit) → (Option (((List IN) × Unit) × Unit)))) : (((((List IN) × Unit) × (Int × ((List IN) × Unit))) → (Option (((List IN) × Unit) × Unit))) → ((((List IN) × Unit) × (Int × ((List IN) × Unit))) → (Option (((List IN) × Unit) × Unit)))) :=
  (fun (x3 : ((((List IN) × Unit) × (Int × ((List IN) × Unit))) → (Option (((List IN) × Unit) × Unit)))) => (fun (x4 : (((List IN) × Unit) × (Int × ((List IN) × Unit)))) => (lt (((List.length x4.2.2.1) : Nat) : Int) fun (x5 : Int) =>
  (lt (Decidable.decide (x4.2.1 < x5)) fun (x6 : Bool) =>
  (lt (Decidable.decide (x4.2.1 < (500 : Int))) fun (x7 : Bool) =>
  (lt (if (x6 = Bool.true) then
  x7
  else Bool.false) fun (x8 : Bool) =>
  (if (x8 = Bool.true) then
  (shr (d21_K2 x3) (fun (x9 : ((((List IN) × Unit) × ((List IN) × (Int × Unit))) → (Option (((List IN) × Unit) × Unit)))) => (lt (((List.length x4.1.1) : Nat) : Int) fun (x10 : Int) =>
  (lt (x10 == (0 : Int)) fun (x11 : Bool) =>
  (if (((Bool.not ((x11 == Bool.false) && Bool.true)) || ((Decidable.decide ((0 : Int) ≤ x4.2.1)) && (Decidable.decide (x4.2.1 < (((List.length x4.2.2.1) : Nat) : Int))))) = Bool.true) then
  (lt (List.getD x4.2.2.1 (Int.toNat x4.2.1) ((0 : Int), ((0 : Int), ((0 : Int), (([] : List Int), ()))))).1 fun (x12 : Int) =>
  (lt (((List.length x4.1.1) : Nat) : Int) fun (x13 : Int) =>
  (lt (Go.IntKind.wrap Go.IntKind.i64 (x13 - (1 : Int))) fun (x14 : Int) =>
  (if (((Bool.not ((x11 == Bool.false) && Bool.true)) || ((Decidable.decide ((0 : Int) ≤ x14)) && (Decidable.decide (x14 < (((List.length x4.1.1) : Nat) : Int))))) = Bool.true) then
  (if (((Bool.not ((x11 == Bool.false) && Bool.true)) || ((Decidable.decide ((Int.toNat x14) < (List.length x4.1.1))) && Bool.true)) = Bool.true) then
  (if (((Bool.not ((x11 == Bool.false) && Bool.true)) || ((Decidable.decide ((Int.toNat x14) < (List.length x4.1.1))) && Bool.true)) = Bool.true) then
  (lt (List.getD x4.1.1 (Int.toNat x14) ((0 : Int), ((0 : Int), ((0 : Int), (([] : List Int), ()))))).1 fun (x15 : Int) =>
  (lt (Decidable.decide (x12 ≥ x15)) fun (x16 : Bool) =>
  (lt (if (x11 = Bool.true) then
  Bool.true
  else x16) fun (x17 : Bool) =>
  (shr (d21_K3 x9) (fun (x18 : ((((List IN) × Unit) × ((List IN) × (Int × Unit))) → (Option (((List IN) × Unit) × Unit)))) => (if (x17 = Bool.true) then
  (if (((Decidable.decide ((0 : Int) ≤ x4.2.1)) && (Decidable.decide (x4.2.1 < (((List.length x4.2.2.1) : Nat) : Int)))) = Bool.true) then
  (lt (List.getD x4.2.2.1 (Int.toNat x4.2.1) ((0 : Int), ((0 : Int), ((0 : Int), (([] : List Int), ()))))) fun (x19 : IN) =>
  (lt (x19 :: ([] : List IN)) fun (x20 : (List IN)) =>
  (if ((Go.Lift.appFits (List.length x4.1.1) (List.length x20) (48 : Nat)) = Bool.true) then
  (x18 (((x4.1.1 ++ x20), ()), (x4.2.2.1, (x4.2.1, ()))))
  else (Option.none))))
  else (Option.none))
  else (x18 ((x4.1.1, ()), (x4.2.2.1, (x4.2.1, ()))))))))))
  else (Option.none))
  else (Option.none))
  else (Option.none)))))
  else (Option.none))))))
  else (x2 ((x4.1.1, ()), ())))))))))
def d21 : (Nat → (((List IN) × Unit) → (Option (((List IN) × Unit) × Unit)))) :=
  (fun (x0 : Nat) => (fun (x1 : ((List IN) × Unit)) => (shr d21_K1 (fun (x2 : ((((List IN) × Unit) × Unit) → (Option (((List IN) × Unit) × Unit)))) => (loopN (d21_L4 x2) x0 ((([] : List IN), ()), ((0 : Int), (x1.1, ()))))))))
theorem k21 : c_fn Tryd.prog [] Tryd.f21 s21 h21 = some d21 := by kernel_rfl
/-- slices.Clone[[]int64,int64] -/
def s62 : Sig := ⟨[((.sl 2 (.int .i64)), .val)], [((.sl 2 (.int .i64)), (.own (.ow .sh)))]⟩
def d62 (_ : Nat) (x : List Int × Unit) : Option ((List Int × Unit) × Unit) := if x.1.length * 8 ≤ 140737488355328 then some ((x.1, ()), ()) else none
/-- bulkhead/script.own -/
def s39 : Sig := ⟨[((.pair (.int .i64) (.pair (.int .i64) (.pair (.int .i64) (.pair (.sl 2 (.int .i64)) .unit)))), .val)], [((.pair (.int .i64) (.pair (.int .i64) (.pair (.int .i64) (.pair (.sl 2 (.int .i64)) .unit)))), (.own (.pr .sh (.pr .sh (.pr .sh (.pr (.ow .sh) .sh))))))]⟩
 def h39 : Hint := (.seq .leaf
   (.seq .leaf
   (.seq .leaf
   .leaf)))
def d39 : (Nat → ((IN × Unit) → (Option ((IN × Unit) × Unit)))) :=
  (fun (x0 : Nat) => (fun (x1 : (IN × Unit)) => (Option.bind (d62 x0 (x1.1.2.2.2.1, ())) fun (x2 : (((List Int) × Unit) × Unit)) =>
  (Option.some (((x1.1.1, (x1.1.2.1, (x1.1.2.2.1, (x2.1.1, x1.1.2.2.2.2)))), ()), ())))))
theorem k39 : c_fn Tryd.prog [(62, ⟨s62, d62⟩)] Tryd.f39 s39 h39 = some d39 := by kernel_rfl
/-- bulkhead/script.Merge -/
def s22 : Sig := ⟨[((.sl 24 (.pair (.int .i64) (.pair (.int .i64) (.pair (.int .i64) (.pair (.sl 2 (.int .i64)) .unit))))), .val), ((.sl 24 (.pair (.int .i64) (.pair (.int .i64) (.pair (.int .i64) (.pair (.sl 2 (.int .i64)) .unit))))), .val)], [((.sl 24 (.pair (.int .i64) (.pair (.int .i64) (.pair (.int .i64) (.pair (.sl 2 (.int .i64)) .unit))))), (.own (.ow (.pr .sh (.pr .sh (.pr .sh (.pr (.ow .sh) .sh)))))))]⟩
 def h22 : Hint := (.seq .leaf
   (.seq .leaf
   (.seq (.block ⟨[((.sl 24 (.pair (.int .i64) (.pair (.int .i64) (.pair (.int .i64) (.pair (.sl 2 (.int .i64)) .unit))))), (.ow (.pr .sh (.pr .sh (.pr .sh (.pr (.ow .sh) .sh))))), (5, 0))], [((5, 0), (.own 0))]⟩ true
     (.loop ⟨[((.sl 24 (.pair (.int .i64) (.pair (.int .i64) (.pair (.int .i64) (.pair (.sl 2 (.int .i64)) .unit))))), (.ow (.pr .sh (.pr .sh (.pr .sh (.pr (.ow .sh) .sh))))), (5, 0))], [((0, 0), (.val (.sl 24 (.pair (.int .i64) (.pair (.int .i64) (.pair (.int .i64) (.pair (.sl 2 (.int .i64)) .unit))))))), ((5, 0), (.own 0)), ((1, 0), (.val (.sl 24 (.pair (.int .i64) (.pair (.int .i64) (.pair (.int .i64) (.pair (.sl 2 (.int .i64)) .unit)))))))]⟩
       (.seq (.seq .leaf
       (.cond none
         .leaf
         .leaf))
       (.block ⟨[((.sl 24 (.pair (.int .i64) (.pair (.int .i64) (.pair (.int .i64) (.pair (.sl 2 (.int .i64)) .unit))))), (.ow (.pr .sh (.pr .sh (.pr .sh (.pr (.ow .sh) .sh))))), (5, 0))], [((0, 0), (.val (.sl 24 (.pair (.int .i64) (.pair (.int .i64) (.pair (.int .i64) (.pair (.sl 2 (.int .i64)) .unit))))))), ((5, 0), (.own 0)), ((1, 0), (.val (.sl 24 (.pair (.int .i64) (.pair (.int .i64) (.pair (.int .i64) (.pair (.sl 2 (.int .i64)) .unit)))))))]⟩ true
         (.seq .leaf
         (.cond (some ⟨[((.sl 24 (.pair (.int .i64) (.pair (.int .i64) (.pair (.int .i64) (.pair (.sl 2 (.int .i64)) .unit))))), (.ow (.pr .sh (.pr .sh (.pr .sh (.pr (.ow .sh) .sh))))), (5, 0))], [((0, 0), (.val (.sl 24 (.pair (.int .i64) (.pair (.int .i64) (.pair (.int .i64) (.pair (.sl 2 (.int .i64)) .unit))))))), ((5, 0), (.own 0)), ((1, 0), (.val (.sl 24 (.pair (.int .i64) (.pair (.int .i64) (.pair (.int .i64) (.pair (.sl 2 (.int .i64)) .unit)))))))]⟩)
           .leaf
           .leaf))))))
   (.seq .leaf
   .leaf))))
def d22_K1  : ((((List IN) × Unit) × Unit) → (Option (((List IN) × Unit) × Unit))) :=
  (fun (x2 : (((List IN) × Unit) × Unit)) => (Option.some ((x2.1.1, ()), ())))
def d22_K2 (x3 : ((((List IN) × Unit) × ((List IN) × ((List IN) × Unit))) → (Option (((List IN) × Unit) × Unit)))) : ((((List IN) × Unit) × ((List IN) × ((List IN) × Unit))) → (Option (((List IN) × Unit) × Unit))) :=
  (fun (x9 : (((List IN) × Unit) × ((List IN) × ((List IN) × Unit)))) => (x3 ((x9.1.1, ()), (x9.2.1, (x9.2.2.1, ())))))
def d22_K3 (x9 : ((((List IN) × Unit) × ((List IN) × ((List IN) × Unit))) → (Option (((List IN) × Unit) × Unit)))) : ((((List IN) × Unit) × ((List IN) × ((List IN) × Unit))) → (Option (((List IN) × Unit) × Unit))) :=
  (fun (x19 : (((List IN) × Unit) × ((List IN) × ((List IN) × Unit)))) => (x9 ((x19.1.1, ()), (x19.2.1, (x19.2.2.1, ())))))
def d22_L4 (x0 : Nat) (x2 : ((((List IN) × Unit) × Unit) → (Option (((List IN) × Unit) × Unit)))) : (((((List IN) × Unit) × ((List IN) × ((List IN) × Unit))) → (Option (((List IN) × Unit) × Unit))) → ((((List IN) × Unit) × ((List IN) × ((List IN) × Unit))) → (Option (((List IN) × Unit) × Unit)))) :=
  (fun (x3 : ((((List IN) × Unit) × ((List IN) × ((List IN) × Unit))) → (Option (((List IN) × Unit) × Unit)))) => (fun (x4 : (((List IN) × Unit) × ((List IN) × ((List IN) × Unit)))) => (lt (((List.length x4.2.1) : Nat) : Int) fun (x5 : Int) =>
  (lt (((List.length x4.2.2.1) : Nat) : Int) fun (x6 : Int) =>
  (lt (Go.IntKind.wrap Go.IntKind.i64 (x5 + x6)) fun (x7 : Int) =>
  (lt (Decidable.decide (x7 > (0 : Int))) fun (x8 : Bool) =>
  (if (x8 = Bool.true) then
  (shr (d22_K2 x3) (fun (x9 : ((((List IN) × Unit) × ((List IN) × ((List IN) × Unit))) → (Option (((List IN) × Unit) × Unit)))) => (lt (((List.length x4.2.2.1) : Nat) : Int) fun (x10 : Int) =>
  (lt (x10 == (0 : Int)) fun (x11 : Bool) =>
  (lt (((List.length x4.2.1) : Nat) : Int) fun (x12 : Int) =>
  (lt (Decidable.decide (x12 > (0 : Int))) fun (x13 : Bool) =>
  (if (((Bool.not ((x13 == Bool.true) && ((x11 == Bool.false) && Bool.true))) || ((Decidable.decide ((0 : Int) ≤ (0 : Int))) && (Decidable.decide ((0 : Int) < (((List.length x4.2.1) : Nat) : Int))))) = Bool.true) then
  (lt (List.getD x4.2.1 (Int.toNat (0 : Int)) ((0 : Int), ((0 : Int), ((0 : Int), (([] : List Int), ()))))).1 fun (x14 : Int) =>
  (if (((Bool.not ((x13 == Bool.true) && ((x11 == Bool.false) && Bool.true))) || ((Decidable.decide ((0 : Int) ≤ (0 : Int))) && (Decidable.decide ((0 : Int) < (((List.length x4.2.2.1) : Nat) : Int))))) = Bool.true) then
  (lt (List.getD x4.2.2.1 (Int.toNat (0 : Int)) ((0 : Int), ((0 : Int), ((0 : Int), (([] : List Int), ()))))).1 fun (x15 : Int) =>
  (lt (Decidable.decide (x14 ≤ x15)) fun (x16 : Bool) =>
  (lt (if (x13 = Bool.true) then
  x16
  else Bool.false) fun (x17 : Bool) =>
  (lt (if (x11 = Bool.true) then
  Bool.true
  else x17) fun (x18 : Bool) =>
  (shr (d22_K3 x9) (fun (x19 : ((((List IN) × Unit) × ((List IN) × ((List IN) × Unit))) → (Option (((List IN) × Unit) × Unit)))) => (if (x18 = Bool.true) then
  (if (((Decidable.decide ((0 : Int) ≤ (0 : Int))) && (Decidable.decide ((0 : Int) < (((List.length x4.2.1) : Nat) : Int)))) = Bool.true) then
  (lt (List.getD x4.2.1 (Int.toNat (0 : Int)) ((0 : Int), ((0 : Int), ((0 : Int), (([] : List Int), ()))))) fun (x20 : IN) =>
  (Option.bind (d39 x0 (x20, ())) fun (x21 : ((IN × Unit) × Unit)) =>
  (lt (x21.1.1 :: ([] : List IN)) fun (x22 : (List IN)) =>
  (if ((Go.Lift.appFits (List.length x4.1.1) (List.length x22) (48 : Nat)) = Bool.true) then
  (lt (x4.1.1 ++ x22) fun (x23 : (List IN)) =>
  (if (((((Decidable.decide ((0 : Int) ≤ (1 : Int))) && Bool.true) && (Decidable.decide ((Int.toNat (1 : Int)) ≤ (List.length x4.2.1)))) && (Decidable.decide ((List.length x4.2.1) ≤ (List.length x4.2.1)))) = Bool.true) then
  (x19 ((x23, ()), ((List.drop (Int.toNat (1 : Int)) (List.take (List.length x4.2.1) x4.2.1)), (x4.2.2.1, ()))))
  else (Option.none)))
  else (Option.none)))))
  else (Option.none))
  else (if (((Decidable.decide ((0 : Int) ≤ (0 : Int))) && (Decidable.decide ((0 : Int) < (((List.length x4.2.2.1) : Nat) : Int)))) = Bool.true) then
  (lt (List.getD x4.2.2.1 (Int.toNat (0 : Int)) ((0 : Int), ((0 : Int), ((0 : Int), (([] : List Int), ()))))) fun (x20 : IN) =>
  (Option.bind (d39 x0 (x20, ())) fun (x21 : ((IN × Unit) × Unit)) =>
  (lt (x21.1.1 :: ([] : List IN)) fun (x22 : (List IN)) =>
  (if ((Go.Lift.appFits (List.length x4.1.1) (List.length x22) (48 : Nat)) = Bool.true) then
  (lt (x4.1.1 ++ x22) fun (x23 : (List IN)) =>
  (if (((((Decidable.decide ((0 : Int) ≤ (1 : Int))) && Bool.true) && (Decidable.decide ((Int.toNat (1 : Int)) ≤ (List.length x4.2.2.1)))) && (Decidable.decide ((List.length x4.2.2.1) ≤ (List.length x4.2.2.1)))) = Bool.true) then
  (x19 ((x23, ()), (x4.2.1, ((List.drop (Int.toNat (1 : Int)) (List.take (List.length x4.2.2.1) x4.2.2.1)), ()))))
  else (Option.none)))
  else (Option.none)))))
  else (Option.none)))))))))
  else (Option.none)))
  else (Option.none))))))))
  else (x2 ((x4.1.1, ()), ())))))))))
def d22 : (Nat → (((List IN) × ((List IN) × Unit)) → (Option (((List IN) × Unit) × Unit)))) :=
  (fun (x0 : Nat) => (fun (x1 : ((List IN) × ((List IN) × Unit))) => (shr d22_K1 (fun (x2 : ((((List IN) × Unit) × Unit) → (Option (((List IN) × Unit) × Unit)))) => (loopN (d22_L4 x0 x2) x0 ((([] : List IN), ()), (x1.1, (x1.2.1, ()))))))))
theorem k22 : c_fn Tryd.prog [(39, ⟨s39, d39⟩)] Tryd.f22 s22 h22 = some d22 := by kernel_rfl
/-- bulkhead/bulkheadlaw21.rising -/
def s23 : Sig := ⟨[((.sl 24 (.pair (.int .i64) (.pair (.int .i64) (.pair (.int .i64) (.pair (.sl 2 (.int .i64)) .unit))))), .val)], [(.bool, .val)]⟩
 def h23 : Hint := (.seq .leaf
   (.seq (.seq .leaf
   (.block ⟨[], []⟩ true
     (.loop ⟨[], [((3, 0), (.val (.int .i64))), ((0, 0), (.val (.sl 24 (.pair (.int .i64) (.pair (.int .i64) (.pair (.int .i64) (.pair (.sl 2 (.int .i64)) .unit)))))))]⟩
       (.seq (.seq .leaf
       (.cond none
         .leaf
         .leaf))
       (.seq (.block ⟨[], [((0, 0), (.val (.sl 24 (.pair (.int .i64) (.pair (.int .i64) (.pair (.int .i64) (.pair (.sl 2 (.int .i64)) .unit))))))), ((3, 0), (.val (.int .i64)))]⟩ true
         (.seq .leaf
         (.cond none
           (.seq .leaf
           .leaf)
           .leaf)))
       .leaf)))))
   (.seq .leaf
   .leaf)))
def d23_K1 (x3 : ((Unit × (Int × ((List IN) × Unit))) → (Option ((Bool × Unit) × Unit)))) : ((Unit × ((List IN) × (Int × Unit))) → (Option ((Bool × Unit) × Unit))) :=
  (fun (x7 : (Unit × ((List IN) × (Int × Unit)))) => (x3 ((), ((Go.IntKind.wrap Go.IntKind.i64 (x7.2.2.1 + (1 : Int))), (x7.2.1, ())))))
def d23_L2 (x2 : ((Unit × Unit) → (Option ((Bool × Unit) × Unit)))) : (((Unit × (Int × ((List IN) × Unit))) → (Option ((Bool × Unit) × Unit))) → ((Unit × (Int × ((List IN) × Unit))) → (Option ((Bool × Unit) × Unit)))) :=
  (fun (x3 : ((Unit × (Int × ((List IN) × Unit))) → (Option ((Bool × Unit) × Unit)))) => (fun (x4 : (Unit × (Int × ((List IN) × Unit)))) => (lt (((List.length x4.2.2.1) : Nat) : Int) fun (x5 : Int) =>
  (lt (Decidable.decide (x4.2.1 < x5)) fun (x6 : Bool) =>
  (if (x6 = Bool.true) then
  (shr (d23_K1 x3) (fun (x7 : ((Unit × ((List IN) × (Int × Unit))) → (Option ((Bool × Unit) × Unit)))) => (if (((Decidable.decide ((0 : Int) ≤ x4.2.1)) && (Decidable.decide (x4.2.1 < (((List.length x4.2.2.1) : Nat) : Int)))) = Bool.true) then
  (lt (List.getD x4.2.2.1 (Int.toNat x4.2.1) ((0 : Int), ((0 : Int), ((0 : Int), (([] : List Int), ()))))).1 fun (x8 : Int) =>
  (lt (Go.IntKind.wrap Go.IntKind.i64 (x4.2.1 - (1 : Int))) fun (x9 : Int) =>
  (if (((Decidable.decide ((0 : Int) ≤ x9)) && (Decidable.decide (x9 < (((List.length x4.2.2.1) : Nat) : Int)))) = Bool.true) then
  (lt (List.getD x4.2.2.1 (Int.toNat x9) ((0 : Int), ((0 : Int), ((0 : Int), (([] : List Int), ()))))).1 fun (x10 : Int) =>
  (lt (Decidable.decide (x8 < x10)) fun (x11 : Bool) =>
  (if (x11 = Bool.true) then
  (Option.some ((Bool.false, ()), ()))
  else (x7 ((), (x4.2.2.1, (x4.2.1, ())))))))
  else (Option.none))))
  else (Option.none))))
  else (x2 ((), ())))))))
def d23 : (Nat → (((List IN) × Unit) → (Option ((Bool × Unit) × Unit)))) :=
  (fun (x0 : Nat) => (fun (x1 : ((List IN) × Unit)) => (shr (fun (x2 : (Unit × Unit)) => (Option.some ((Bool.true, ()), ()))) (fun (x2 : ((Unit × Unit) → (Option ((Bool × Unit) × Unit)))) => (loopN (d23_L2 x2) x0 ((), ((1 : Int), (x1.1, ()))))))))
theorem k23 : c_fn Tryd.prog [] Tryd.f23 s23 h23 = some d23 := by kernel_rfl
/-- bulkhead/bulkheadlaw21.woven -/
def s24 : Sig := ⟨[((.sl 24 (.pair (.int .i64) (.pair (.int .i64) (.pair (.int .i64) (.pair (.sl 2 (.int .i64)) .unit))))), .val), ((.sl 24 (.pair (.int .i64) (.pair (.int .i64) (.pair (.int .i64) (.pair (.sl 2 (.int .i64)) .unit))))), .val), ((.sl 24 (.pair (.int .i64) (.pair (.int .i64) (.pair (.int .i64) (.pair (.sl 2 (.int .i64)) .unit))))), .val)], [(.bool, .val)]⟩
 def h24 : Hint := (.seq .leaf
   (.seq .leaf
   (.seq .leaf
   (.seq (.seq .leaf
   (.block ⟨[], [((2, 0), (.val (.sl 24 (.pair (.int .i64) (.pair (.int .i64) (.pair (.int .i64) (.pair (.sl 2 (.int .i64)) .unit))))))), ((8, 0), (.val (.int .i64))), ((1, 0), (.val (.sl 24 (.pair (.int .i64) (.pair (.int .i64) (.pair (.int .i64) (.pair (.sl 2 (.int .i64)) .unit))))))), ((7, 0), (.val (.int .i64)))]⟩ true
     (.loop ⟨[], [((9, 0), (.val (.int .i64))), ((7, 0), (.val (.int .i64))), ((8, 0), (.val (.int .i64))), ((2, 0), (.val (.sl 24 (.pair (.int .i64) (.pair (.int .i64) (.pair (.int .i64) (.pair (.sl 2 (.int .i64)) .unit))))))), ((0, 0), (.val (.sl 24 (.pair (.int .i64) (.pair (.int .i64) (.pair (.int .i64) (.pair (.sl 2 (.int .i64)) .unit))))))), ((1, 0), (.val (.sl 24 (.pair (.int .i64) (.pair (.int .i64) (.pair (.int .i64) (.pair (.sl 2 (.int .i64)) .unit)))))))]⟩
       (.seq (.seq .leaf
       (.cond none
         .leaf
         .leaf))
       (.seq (.block ⟨[], [((7, 0), (.val (.int .i64))), ((8, 0), (.val (.int .i64))), ((2, 0), (.val (.sl 24 (.pair (.int .i64) (.pair (.int .i64) (.pair (.int .i64) (.pair (.sl 2 (.int .i64)) .unit))))))), ((0, 0), (.val (.sl 24 (.pair (.int .i64) (.pair (.int .i64) (.pair (.int .i64) (.pair (.sl 2 (.int .i64)) .unit))))))), ((1, 0), (.val (.sl 24 (.pair (.int .i64) (.pair (.int .i64) (.pair (.int .i64) (.pair (.sl 2 (.int .i64)) .unit))))))), ((9, 0), (.val (.int .i64)))]⟩ true
         (.seq .leaf
         (.cond (some ⟨[], [((7, 0), (.val (.int .i64))), ((8, 0), (.val (.int .i64))), ((2, 0), (.val (.sl 24 (.pair (.int .i64) (.pair (.int .i64) (.pair (.int .i64) (.pair (.sl 2 (.int .i64)) .unit))))))), ((0, 0), (.val (.sl 24 (.pair (.int .i64) (.pair (.int .i64) (.pair (.int .i64) (.pair (.sl 2 (.int .i64)) .unit))))))), ((1, 0), (.val (.sl 24 (.pair (.int .i64) (.pair (.int .i64) (.pair (.int .i64) (.pair (.sl 2 (.int .i64)) .unit))))))), ((9, 0), (.val (.int .i64)))]⟩)
           .leaf
           (.seq .leaf
           (.cond none
             .leaf
             (.seq .leaf
             .leaf))))))
       .leaf)))))
   (.seq .leaf
   .leaf)))))
def d24_K1  : ((Unit × ((List IN) × (Int × ((List IN) × (Int × Unit))))) → (Option ((Bool × Unit) × Unit))) :=
  (fun (x2 : (Unit × ((List IN) × (Int × ((List IN) × (Int × Unit)))))) => (lt (((List.length x2.2.2.2.1) : Nat) : Int) fun (x3 : Int) =>
  (lt (x2.2.2.2.2.1 == x3) fun (x4 : Bool) =>
  (lt (((List.length x2.2.1) : Nat) : Int) fun (x5 : Int) =>
  (lt (x2.2.2.1 == x5) fun (x6 : Bool) =>
  (Option.some (((if (x4 = Bool.true) then
  x6
  else Bool.false), ()), ())))))))
def d24_K2 (x3 : ((Unit × (Int × (Int × (Int × ((List IN) × ((List IN) × ((List IN) × Unit))))))) → (Option ((Bool × Unit) × Unit)))) : ((Unit × (Int × (Int × ((List IN) × ((List IN) × ((List IN) × (Int × Unit))))))) → (Option ((Bool × Unit) × Unit))) :=
  (fun (x7 : (Unit × (Int × (Int × ((List IN) × ((List IN) × ((List IN) × (Int × Unit)))))))) => (x3 ((), ((Go.IntKind.wrap Go.IntKind.i64 (x7.2.2.2.2.2.2.1 + (1 : Int))), (x7.2.1, (x7.2.2.1, (x7.2.2.2.1, (x7.2.2.2.2.1, (x7.2.2.2.2.2.1, ())))))))))
def d24_K3 (x7 : ((Unit × (Int × (Int × ((List IN) × ((List IN) × ((List IN) × (Int × Unit))))))) → (Option ((Bool × Unit) × Unit)))) : ((Unit × (Int × (Int × ((List IN) × ((List IN) × ((List IN) × (Int × Unit))))))) → (Option ((Bool × Unit) × Unit))) :=
  (fun (x21 : (Unit × (Int × (Int × ((List IN) × ((List IN) × ((List IN) × (Int × Unit)))))))) => (x7 ((), (x21.2.1, (x21.2.2.1, (x21.2.2.2.1, (x21.2.2.2.2.1, (x21.2.2.2.2.2.1, (x21.2.2.2.2.2.2.1, ())))))))))
def d24_L4 (x0 : Nat) (x2 : ((Unit × ((List IN) × (Int × ((List IN) × (Int × Unit))))) → (Option ((Bool × Unit) × Unit)))) : (((Unit × (Int × (Int × (Int × ((List IN) × ((List IN) × ((List IN) × Unit))))))) → (Option ((Bool × Unit) × Unit))) → ((Unit × (Int × (Int × (Int × ((List IN) × ((List IN) × ((List IN) × Unit))))))) → (Option ((Bool × Unit) × Unit)))) :=
  (fun (x3 : ((Unit × (Int × (Int × (Int × ((List IN) × ((List IN) × ((List IN) × Unit))))))) → (Option ((Bool × Unit) × Unit)))) => (fun (x4 : (Unit × (Int × (Int × (Int × ((List IN) × ((List IN) × ((List IN) × Unit)))))))) => (lt (((List.length x4.2.2.2.2.2.1) : Nat) : Int) fun (x5 : Int) =>
  (lt (Decidable.decide (x4.2.1 < x5)) fun (x6 : Bool) =>
  (if (x6 = Bool.true) then
  (shr (d24_K2 x3) (fun (x7 : ((Unit × (Int × (Int × ((List IN) × ((List IN) × ((List IN) × (Int × Unit))))))) → (Option ((Bool × Unit) × Unit)))) => (lt (((List.length x4.2.2.2.2.2.2.1) : Nat) : Int) fun (x8 : Int) =>
  (lt (Decidable.decide (x4.2.2.1 < x8)) fun (x9 : Bool) =>
  (if (((Bool.not ((x9 == Bool.true) && Bool.true)) || ((Decidable.decide ((0 : Int) ≤ x4.2.1)) && (Decidable.decide (x4.2.1 < (((List.length x4.2.2.2.2.2.1) : Nat) : Int))))) = Bool.true) then
  (lt (List.getD x4.2.2.2.2.2.1 (Int.toNat x4.2.1) ((0 : Int), ((0 : Int), ((0 : Int), (([] : List Int), ()))))) fun (x10 : IN) =>
  (if (((Bool.not ((x9 == Bool.true) && Bool.true)) || ((Decidable.decide ((0 : Int) ≤ x4.2.2.1)) && (Decidable.decide (x4.2.2.1 < (((List.length x4.2.2.2.2.2.2.1) : Nat) : Int))))) = Bool.true) then
  (lt (List.getD x4.2.2.2.2.2.2.1 (Int.toNat x4.2.2.1) ((0 : Int), ((0 : Int), ((0 : Int), (([] : List Int), ()))))) fun (x11 : IN) =>
  (Option.bind (if (((x9 == Bool.true) && Bool.true) = Bool.true) then
  (d38 x0 (x10, (x11, ())))
  else (Option.some ((Bool.false, ()), ()))) fun (x12 : ((Bool × Unit) × Unit)) =>
  (lt (if (x9 = Bool.true) then
  x12.1.1
  else Bool.false) fun (x13 : Bool) =>
  (lt (((List.length x4.2.2.2.2.1) : Nat) : Int) fun (x14 : Int) =>
  (lt (Decidable.decide (x4.2.2.2.1 ≥ x14)) fun (x15 : Bool) =>
  (if (((Bool.not ((x15 == Bool.false) && ((x13 == Bool.true) && Bool.true))) || ((Decidable.decide ((0 : Int) ≤ x4.2.2.1)) && (Decidable.decide (x4.2.2.1 < (((List.length x4.2.2.2.2.2.2.1) : Nat) : Int))))) = Bool.true) then
  (lt (List.getD x4.2.2.2.2.2.2.1 (Int.toNat x4.2.2.1) ((0 : Int), ((0 : Int), ((0 : Int), (([] : List Int), ()))))).1 fun (x16 : Int) =>
  (if (((Bool.not ((x15 == Bool.false) && ((x13 == Bool.true) && Bool.true))) || ((Decidable.decide ((0 : Int) ≤ x4.2.2.2.1)) && (Decidable.decide (x4.2.2.2.1 < (((List.length x4.2.2.2.2.1) : Nat) : Int))))) = Bool.true) then
  (lt (List.getD x4.2.2.2.2.1 (Int.toNat x4.2.2.2.1) ((0 : Int), ((0 : Int), ((0 : Int), (([] : List Int), ()))))).1 fun (x17 : Int) =>
  (lt (Decidable.decide (x16 ≤ x17)) fun (x18 : Bool) =>
  (lt (if (x15 = Bool.true) then
  Bool.true
  else x18) fun (x19 : Bool) =>
  (lt (if (x13 = Bool.true) then
  x19
  else Bool.false) fun (x20 : Bool) =>
  (shr (d24_K3 x7) (fun (x21 : ((Unit × (Int × (Int × ((List IN) × ((List IN) × ((List IN) × (Int × Unit))))))) → (Option ((Bool × Unit) × Unit)))) => (if (x20 = Bool.true) then
  (x21 ((), ((Go.IntKind.wrap Go.IntKind.i64 (x4.2.2.1 + (1 : Int))), (x4.2.2.2.1, (x4.2.2.2.2.1, (x4.2.2.2.2.2.1, (x4.2.2.2.2.2.2.1, (x4.2.1, ()))))))))
  else (lt (((List.length x4.2.2.2.2.1) : Nat) : Int) fun (x22 : Int) =>
  (lt (Decidable.decide (x4.2.2.2.1 < x22)) fun (x23 : Bool) =>
  (if (((Bool.not ((x23 == Bool.true) && Bool.true)) || ((Decidable.decide ((0 : Int) ≤ x4.2.1)) && (Decidable.decide (x4.2.1 < (((List.length x4.2.2.2.2.2.1) : Nat) : Int))))) = Bool.true) then
  (lt (List.getD x4.2.2.2.2.2.1 (Int.toNat x4.2.1) ((0 : Int), ((0 : Int), ((0 : Int), (([] : List Int), ()))))) fun (x24 : IN) =>
  (if (((Bool.not ((x23 == Bool.true) && Bool.true)) || ((Decidable.decide ((0 : Int) ≤ x4.2.2.2.1)) && (Decidable.decide (x4.2.2.2.1 < (((List.length x4.2.2.2.2.1) : Nat) : Int))))) = Bool.true) then
  (lt (List.getD x4.2.2.2.2.1 (Int.toNat x4.2.2.2.1) ((0 : Int), ((0 : Int), ((0 : Int), (([] : List Int), ()))))) fun (x25 : IN) =>
  (Option.bind (if (((x23 == Bool.true) && Bool.true) = Bool.true) then
  (d38 x0 (x24, (x25, ())))
  else (Option.some ((Bool.false, ()), ()))) fun (x26 : ((Bool × Unit) × Unit)) =>
  (lt (if (x23 = Bool.true) then
  x26.1.1
  else Bool.false) fun (x27 : Bool) =>
  (if (x27 = Bool.true) then
  (x21 ((), (x4.2.2.1, ((Go.IntKind.wrap Go.IntKind.i64 (x4.2.2.2.1 + (1 : Int))), (x4.2.2.2.2.1, (x4.2.2.2.2.2.1, (x4.2.2.2.2.2.2.1, (x4.2.1, ()))))))))
  else (Option.some ((Bool.false, ()), ()))))))
  else (Option.none)))
  else (Option.none)))))))))))
  else (Option.none)))
  else (Option.none)))))))
  else (Option.none)))
  else (Option.none))))))
  else (x2 ((), (x4.2.2.2.2.1, (x4.2.2.2.1, (x4.2.2.2.2.2.2.1, (x4.2.2.1, ())))))))))))
def d24 : (Nat → (((List IN) × ((List IN) × ((List IN) × Unit))) → (Option ((Bool × Unit) × Unit)))) :=
  (fun (x0 : Nat) => (fun (x1 : ((List IN) × ((List IN) × ((List IN) × Unit)))) => (shr d24_K1 (fun (x2 : ((Unit × ((List IN) × (Int × ((List IN) × (Int × Unit))))) → (Option ((Bool × Unit) × Unit)))) => (loopN (d24_L4 x0 x2) x0 ((), ((0 : Int), ((0 : Int), ((0 : Int), (x1.2.2.1, (x1.1, (x1.2.1, ()))))))))))))
theorem k24 : c_fn Tryd.prog [(38, ⟨s38, d38⟩)] Tryd.f24 s24 h24 = some d24 := by kernel_rfl
/-- bulkhead/script.Cut -/
def s25 : Sig := ⟨[((.sl 24 (.pair (.int .i64) (.pair (.int .i64) (.pair (.int .i64) (.pair (.sl 2 (.int .i64)) .unit))))), .val), ((.int .i64), .val), ((.int .i64), .val)], [((.sl 24 (.pair (.int .i64) (.pair (.int .i64) (.pair (.int .i64) (.pair (.sl 2 (.int .i64)) .unit))))), (.own (.ow (.pr .sh (.pr .sh (.pr .sh (.pr (.ow .sh) .sh)))))))]⟩
 def h25 : Hint := (.seq .leaf
   (.seq .leaf
   (.seq (.seq .leaf
   (.block ⟨[((.sl 24 (.pair (.int .i64) (.pair (.int .i64) (.pair (.int .i64) (.pair (.sl 2 (.int .i64)) .unit))))), (.ow (.pr .sh (.pr .sh (.pr .sh (.pr (.ow .sh) .sh))))), (7, 0))], [((7, 0), (.own 0))]⟩ true
     (.loop ⟨[((.sl 24 (.pair (.int .i64) (.pair (.int .i64) (.pair (.int .i64) (.pair (.sl 2 (.int .i64)) .unit))))), (.ow (.pr .sh (.pr .sh (.pr .sh (.pr (.ow .sh) .sh))))), (7, 0))], [((12, 0), (.val (.int .i64))), ((7, 0), (.own 0)), ((2, 0), (.val (.int .i64))), ((1, 0), (.val (.int .i64))), ((10, 0), (.val (.sl 24 (.pair (.int .i64) (.pair (.int .i64) (.pair (.int .i64) (.pair (.sl 2 (.int .i64)) .unit))))))), ((11, 0), (.val (.int .i64)))]⟩
       (.seq .leaf
       (.seq (.cond none
         .leaf
         .leaf)
       (.seq (.block ⟨[((.sl 24 (.pair (.int .i64) (.pair (.int .i64) (.pair (.int .i64) (.pair (.sl 2 (.int .i64)) .unit))))), (.ow (.pr .sh (.pr .sh (.pr .sh (.pr (.ow .sh) .sh))))), (7, 0))], [((7, 0), (.own 0)), ((2, 0), (.val (.int .i64))), ((1, 0), (.val (.int .i64))), ((10, 0), (.val (.sl 24 (.pair (.int .i64) (.pair (.int .i64) (.pair (.int .i64) (.pair (.sl 2 (.int .i64)) .unit))))))), ((11, 0), (.val (.int .i64))), ((12, 0), (.val (.int .i64)))]⟩ true
         (.seq .leaf
         (.seq .leaf
         (.cond (some ⟨[((.sl 24 (.pair (.int .i64) (.pair (.int .i64) (.pair (.int .i64) (.pair (.sl 2 (.int .i64)) .unit))))), (.ow (.pr .sh (.pr .sh (.pr .sh (.pr (.ow .sh) .sh))))), (7, 0))], [((7, 0), (.own 0)), ((2, 0), (.val (.int .i64))), ((1, 0), (.val (.int .i64))), ((10, 0), (.val (.sl 24 (.pair (.int .i64) (.pair (.int .i64) (.pair (.int .i64) (.pair (.sl 2 (.int .i64)) .unit))))))), ((11, 0), (.val (.int .i64))), ((12, 0), (.val (.int .i64)))]⟩)
           .leaf
           .leaf))))
       .leaf))))))
   (.seq .leaf
   .leaf))))
def d25_K1  : ((((List IN) × Unit) × Unit) → (Option (((List IN) × Unit) × Unit))) :=
  (fun (x2 : (((List IN) × Unit) × Unit)) => (Option.some ((x2.1.1, ()), ())))
def d25_K2 (x3 : ((((List IN) × Unit) × (Int × (Int × (Int × ((List IN) × (Int × Unit)))))) → (Option (((List IN) × Unit) × Unit)))) : ((((List IN) × Unit) × (Int × (Int × ((List IN) × (Int × (Int × Unit)))))) → (Option (((List IN) × Unit) × Unit))) :=
  (fun (x6 : (((List IN) × Unit) × (Int × (Int × ((List IN) × (Int × (Int × Unit))))))) => (x3 ((x6.1.1, ()), ((Go.IntKind.wrap Go.IntKind.i64 (x6.2.2.2.2.2.1 + (1 : Int))), (x6.2.1, (x6.2.2.1, (x6.2.2.2.1, (x6.2.2.2.2.1, ()))))))))
def d25_K3 (x6 : ((((List IN) × Unit) × (Int × (Int × ((List IN) × (Int × (Int × Unit)))))) → (Option (((List IN) × Unit) × Unit)))) : ((((List IN) × Unit) × (Int × (Int × ((List IN) × (Int × (Int × Unit)))))) → (Option (((List IN) × Unit) × Unit))) :=
  (fun (x11 : (((List IN) × Unit) × (Int × (Int × ((List IN) × (Int × (Int × Unit))))))) => (x6 ((x11.1.1, ()), (x11.2.1, (x11.2.2.1, (x11.2.2.2.1, (x11.2.2.2.2.1, (x11.2.2.2.2.2.1, ()))))))))
def d25_L4 (x0 : Nat) (x2 : ((((List IN) × Unit) × Unit) → (Option (((List IN) × Unit) × Unit)))) : (((((List IN) × Unit) × (Int × (Int × (Int × ((List IN) × (Int × Unit)))))) → (Option (((List IN) × Unit) × Unit))) → ((((List IN) × Unit) × (Int × (Int × (Int × ((List IN) × (Int × Unit)))))) → (Option (((List IN) × Unit) × Unit)))) :=
  (fun (x3 : ((((List IN) × Unit) × (Int × (Int × (Int × ((List IN) × (Int × Unit)))))) → (Option (((List IN) × Unit) × Unit)))) => (fun (x4 : (((List IN) × Unit) × (Int × (Int × (Int × ((List IN) × (Int × Unit))))))) => (lt (Decidable.decide (x4.2.1 < x4.2.2.2.2.2.1)) fun (x5 : Bool) =>
  (if (x5 = Bool.true) then
  (shr (d25_K2 x3) (fun (x6 : ((((List IN) × Unit) × (Int × (Int × ((List IN) × (Int × (Int × Unit)))))) → (Option (((List IN) × Unit) × Unit)))) => (if (((Decidable.decide ((0 : Int) ≤ x4.2.1)) && (Decidable.decide (x4.2.1 < (((List.length x4.2.2.2.2.1) : Nat) : Int)))) = Bool.true) then
  (lt (List.getD x4.2.2.2.2.1 (Int.toNat x4.2.1) ((0 : Int), ((0 : Int), ((0 : Int), (([] : List Int), ()))))) fun (x7 : IN) =>
  (lt (Decidable.decide (x7.1 ≥ x4.2.2.2.1)) fun (x8 : Bool) =>
  (lt (Decidable.decide (x7.1 < x4.2.2.1)) fun (x9 : Bool) =>
  (lt (if (x8 = Bool.true) then
  x9
  else Bool.false) fun (x10 : Bool) =>
  (shr (d25_K3 x6) (fun (x11 : ((((List IN) × Unit) × (Int × (Int × ((List IN) × (Int × (Int × Unit)))))) → (Option (((List IN) × Unit) × Unit)))) => (if (x10 = Bool.true) then
  (Option.bind (d39 x0 (x7, ())) fun (x12 : ((IN × Unit) × Unit)) =>
  (lt (x12.1.1 :: ([] : List IN)) fun (x13 : (List IN)) =>
  (if ((Go.Lift.appFits (List.length x4.1.1) (List.length x13) (48 : Nat)) = Bool.true) then
  (x11 (((x4.1.1 ++ x13), ()), (x4.2.2.1, (x4.2.2.2.1, (x4.2.2.2.2.1, (x4.2.2.2.2.2.1, (x4.2.1, ())))))))
  else (Option.none))))
  else (x11 ((x4.1.1, ()), (x4.2.2.1, (x4.2.2.2.1, (x4.2.2.2.2.1, (x4.2.2.2.2.2.1, (x4.2.1, ()))))))))))))))
  else (Option.none))))
  else (x2 ((x4.1.1, ()), ()))))))
def d25 : (Nat → (((List IN) × (Int × (Int × Unit))) → (Option (((List IN) × Unit) × Unit)))) :=
  (fun (x0 : Nat) => (fun (x1 : ((List IN) × (Int × (Int × Unit)))) => (shr d25_K1 (fun (x2 : ((((List IN) × Unit) × Unit) → (Option (((List IN) × Unit) × Unit)))) => (loopN (d25_L4 x0 x2) x0 ((([] : List IN), ()), ((0 : Int), (x1.2.2.1, (x1.2.1, (x1.1, ((((List.length x1.1) : Nat) : Int), ())))))))))))
theorem k25 : c_fn Tryd.prog [(39, ⟨s39, d39⟩)] Tryd.f25 s25 h25 = some d25 := by kernel_rfl
/-- bulkhead/bulkheadlaw21.ScriptMerges -/
def s6 : Sig := ⟨[((.sl 24 (.pair (.int .i64) (.pair (.int .i64) (.pair (.int .i64) (.pair (.sl 2 (.int .i64)) .unit))))), .val), ((.sl 24 (.pair (.int .i64) (.pair (.int .i64) (.pair (.int .i64) (.pair (.sl 2 (.int .i64)) .unit))))), .val), ((.sl 24 (.pair (.int .i64) (.pair (.int .i64) (.pair (.int .i64) (.pair (.sl 2 (.int .i64)) .unit))))), .val), ((.int .i64), .val)], [(.bool, .val)]⟩
 def h6 : Hint := (.seq .leaf
   (.seq (.seq .leaf
   (.cond none
     (.seq .leaf
     .leaf)
     .leaf))
   (.seq .leaf
   (.seq .leaf
   (.seq .leaf
   (.seq .leaf
   (.seq (.seq .leaf
   (.cond none
     (.seq .leaf
     .leaf)
     .leaf))
   (.seq (.seq .leaf
   (.cond none
     (.seq .leaf
     .leaf)
     .leaf))
   (.seq .leaf
   (.seq .leaf
   (.seq .leaf
   (.seq (.seq .leaf
   (.block ⟨[((.sl 24 (.pair (.int .i64) (.pair (.int .i64) (.pair (.int .i64) (.pair (.sl 2 (.int .i64)) .unit))))), (.ow (.pr .sh (.pr .sh (.pr .sh (.pr (.ow .sh) .sh))))), (15, 0)), ((.sl 24 (.pair (.int .i64) (.pair (.int .i64) (.pair (.int .i64) (.pair (.sl 2 (.int .i64)) .unit))))), (.ow (.pr .sh (.pr .sh (.pr .sh (.pr (.ow .sh) .sh))))), (14, 0)), ((.sl 24 (.pair (.int .i64) (.pair (.int .i64) (.pair (.int .i64) (.pair (.sl 2 (.int .i64)) .unit))))), (.ow (.pr .sh (.pr .sh (.pr .sh (.pr (.ow .sh) .sh))))), (12, 0))], [((3, 0), (.val (.int .i64))), ((15, 0), (.own 0)), ((14, 0), (.own 1)), ((12, 0), (.own 2))]⟩ true
     (.loop ⟨[((.sl 24 (.pair (.int .i64) (.pair (.int .i64) (.pair (.int .i64) (.pair (.sl 2 (.int .i64)) .unit))))), (.ow (.pr .sh (.pr .sh (.pr .sh (.pr (.ow .sh) .sh))))), (12, 0)), ((.sl 24 (.pair (.int .i64) (.pair (.int .i64) (.pair (.int .i64) (.pair (.sl 2 (.int .i64)) .unit))))), (.ow (.pr .sh (.pr .sh (.pr .sh (.pr (.ow .sh) .sh))))), (15, 0)), ((.sl 24 (.pair (.int .i64) (.pair (.int .i64) (.pair (.int .i64) (.pair (.sl 2 (.int .i64)) .unit))))), (.ow (.pr .sh (.pr .sh (.pr .sh (.pr (.ow .sh) .sh))))), (14, 0))], [((16, 0), (.val (.int .i64))), ((12, 0), (.own 0)), ((3, 0), (.val (.int .i64))), ((15, 0), (.own 1)), ((14, 0), (.own 2))]⟩
       (.seq (.seq .leaf
       (.cond none
         .leaf
         .leaf))
       (.seq (.block ⟨[((.sl 24 (.pair (.int .i64) (.pair (.int .i64) (.pair (.int .i64) (.pair (.sl 2 (.int .i64)) .unit))))), (.ow (.pr .sh (.pr .sh (.pr .sh (.pr (.ow .sh) .sh))))), (12, 0)), ((.sl 24 (.pair (.int .i64) (.pair (.int .i64) (.pair (.int .i64) (.pair (.sl 2 (.int .i64)) .unit))))), (.ow (.pr .sh (.pr .sh (.pr .sh (.pr (.ow .sh) .sh))))), (15, 0)), ((.sl 24 (.pair (.int .i64) (.pair (.int .i64) (.pair (.int .i64) (.pair (.sl 2 (.int .i64)) .unit))))), (.ow (.pr .sh (.pr .sh (.pr .sh (.pr (.ow .sh) .sh))))), (14, 0))], [((12, 0), (.own 0)), ((3, 0), (.val (.int .i64))), ((15, 0), (.own 1)), ((14, 0), (.own 2)), ((16, 0), (.val (.int .i64)))]⟩ true
         (.seq .leaf
         (.cond none
           (.seq .leaf
           .leaf)
           .leaf)))
       .leaf)))))
   (.seq .leaf
   .leaf)))))))))))))
def d6_K1 (x0 : Nat) : ((((List IN) × ((List IN) × ((List IN) × Unit))) × (Int × Unit)) → (Option ((Bool × Unit) × Unit))) :=
  (fun (x28 : (((List IN) × ((List IN) × ((List IN) × Unit))) × (Int × Unit))) => (Option.bind (d22 x0 (x28.1.2.1, (x28.1.1, ()))) fun (x29 : (((List IN) × Unit) × Unit)) =>
  (Option.bind (d15 x0 (x29.1.1, (x28.1.2.2.1, ()))) fun (x30 : ((Bool × Unit) × Unit)) =>
  (lt (((List.length x28.1.2.1) : Nat) : Int) fun (x31 : Int) =>
  (lt (x31 == (0 : Int)) fun (x32 : Bool) =>
  (lt (((List.length x28.1.2.1) : Nat) : Int) fun (x33 : Int) =>
  (lt (Go.IntKind.wrap Go.IntKind.i64 (x33 - (1 : Int))) fun (x34 : Int) =>
  (if (((Bool.not ((x32 == Bool.false) && ((x30.1.1 == Bool.true) && Bool.true))) || ((Decidable.decide ((0 : Int) ≤ x34)) && (Decidable.decide (x34 < (((List.length x28.1.2.1) : Nat) : Int))))) = Bool.true) then
  (if (((Bool.not ((x32 == Bool.false) && ((x30.1.1 == Bool.true) && Bool.true))) || ((Decidable.decide ((Int.toNat x34) < (List.length x28.1.2.1))) && Bool.true)) = Bool.true) then
  (if (((Bool.not ((x32 == Bool.false) && ((x30.1.1 == Bool.true) && Bool.true))) || ((Decidable.decide ((Int.toNat x34) < (List.length x28.1.2.1))) && Bool.true)) = Bool.true) then
  (lt (List.getD x28.1.2.1 (Int.toNat x34) ((0 : Int), ((0 : Int), ((0 : Int), (([] : List Int), ()))))).1 fun (x35 : Int) =>
  (lt (Decidable.decide (x35 < x28.2.1)) fun (x36 : Bool) =>
  (lt (if (x32 = Bool.true) then
  Bool.true
  else x36) fun (x37 : Bool) =>
  (lt (if (x30.1.1 = Bool.true) then
  x37
  else Bool.false) fun (x38 : Bool) =>
  (lt (((List.length x28.1.1) : Nat) : Int) fun (x39 : Int) =>
  (lt (x39 == (0 : Int)) fun (x40 : Bool) =>
  (if (((Bool.not ((x40 == Bool.false) && ((x38 == Bool.true) && Bool.true))) || ((Decidable.decide ((0 : Int) ≤ (0 : Int))) && (Decidable.decide ((0 : Int) < (((List.length x28.1.1) : Nat) : Int))))) = Bool.true) then
  (if (((Bool.not ((x40 == Bool.false) && ((x38 == Bool.true) && Bool.true))) || ((Decidable.decide ((Int.toNat (0 : Int)) < (List.length x28.1.1))) && Bool.true)) = Bool.true) then
  (if (((Bool.not ((x40 == Bool.false) && ((x38 == Bool.true) && Bool.true))) || ((Decidable.decide ((Int.toNat (0 : Int)) < (List.length x28.1.1))) && Bool.true)) = Bool.true) then
  (lt (List.getD x28.1.1 (Int.toNat (0 : Int)) ((0 : Int), ((0 : Int), ((0 : Int), (([] : List Int), ()))))).1 fun (x41 : Int) =>
  (lt (Decidable.decide (x41 ≥ x28.2.1)) fun (x42 : Bool) =>
  (lt (if (x40 = Bool.true) then
  Bool.true
  else x42) fun (x43 : Bool) =>
  (Option.some (((if (x38 = Bool.true) then
  x43
  else Bool.false), ()), ())))))
  else (Option.none))
  else (Option.none))
  else (Option.none))))))))
  else (Option.none))
  else (Option.none))
  else (Option.none)))))))))
def d6_K2 (x29 : ((((List IN) × ((List IN) × ((List IN) × Unit))) × (Int × (Int × Unit))) → (Option ((Bool × Unit) × Unit)))) : ((((List IN) × ((List IN) × ((List IN) × Unit))) × (Int × (Int × Unit))) → (Option ((Bool × Unit) × Unit))) :=
  (fun (x33 : (((List IN) × ((List IN) × ((List IN) × Unit))) × (Int × (Int × Unit)))) => (x29 ((x33.1.1, (x33.1.2.1, (x33.1.2.2.1, ()))), ((Go.IntKind.wrap Go.IntKind.i64 (x33.2.2.1 + (1 : Int))), (x33.2.1, ())))))
def d6_L3 (x28 : ((((List IN) × ((List IN) × ((List IN) × Unit))) × (Int × Unit)) → (Option ((Bool × Unit) × Unit)))) : (((((List IN) × ((List IN) × ((List IN) × Unit))) × (Int × (Int × Unit))) → (Option ((Bool × Unit) × Unit))) → ((((List IN) × ((List IN) × ((List IN) × Unit))) × (Int × (Int × Unit))) → (Option ((Bool × Unit) × Unit)))) :=
  (fun (x29 : ((((List IN) × ((List IN) × ((List IN) × Unit))) × (Int × (Int × Unit))) → (Option ((Bool × Unit) × Unit)))) => (fun (x30 : (((List IN) × ((List IN) × ((List IN) × Unit))) × (Int × (Int × Unit)))) => (lt (((List.length x30.1.1) : Nat) : Int) fun (x31 : Int) =>
  (lt (Decidable.decide (x30.2.1 < x31)) fun (x32 : Bool) =>
  (if (x32 = Bool.true) then
  (shr (d6_K2 x29) (fun (x33 : ((((List IN) × ((List IN) × ((List IN) × Unit))) × (Int × (Int × Unit))) → (Option ((Bool × Unit) × Unit)))) => (if (((Decidable.decide ((0 : Int) ≤ x30.2.1)) && (Decidable.decide (x30.2.1 < (((List.length x30.1.1) : Nat) : Int)))) = Bool.true) then
  (if (((Decidable.decide ((Int.toNat x30.2.1) < (List.length x30.1.1))) && Bool.true) = Bool.true) then
  (if (((Decidable.decide ((Int.toNat x30.2.1) < (List.length x30.1.1))) && Bool.true) = Bool.true) then
  (lt (List.getD x30.1.1 (Int.toNat x30.2.1) ((0 : Int), ((0 : Int), ((0 : Int), (([] : List Int), ()))))).1 fun (x34 : Int) =>
  (lt (x34 == (9223372036854775807 : Int)) fun (x35 : Bool) =>
  (if (x35 = Bool.true) then
  (Option.some ((Bool.true, ()), ()))
  else (x33 ((x30.1.1, (x30.1.2.1, (x30.1.2.2.1, ()))), (x30.2.2.1, (x30.2.1, ())))))))
  else (Option.none))
  else (Option.none))
  else (Option.none))))
  else (x28 ((x30.1.2.1, (x30.1.2.2.1, (x30.1.1, ()))), (x30.2.2.1, ()))))))))
def d6 : (Nat → (((List IN) × ((List IN) × ((List IN) × (Int × Unit)))) → (Option ((Bool × Unit) × Unit)))) :=
  (fun (x0 : Nat) => (fun (x1 : ((List IN) × ((List IN) × ((List IN) × (Int × Unit))))) => (Option.bind (d19 x0 ()) fun (x2 : ((Bool × Unit) × Unit)) =>
  (lt (Bool.not x2.1.1) fun (x3 : Bool) =>
  (if (x3 = Bool.true) then
  (Option.some ((Bool.false, ()), ()))
  else (Option.bind (d21 x0 (x1.1, ())) fun (x4 : (((List IN) × Unit) × Unit)) =>
  (Option.bind (d21 x0 (x1.2.1, ())) fun (x5 : (((List IN) × Unit) × Unit)) =>
  (Option.bind (d21 x0 (x1.2.2.1, ())) fun (x6 : (((List IN) × Unit) × Unit)) =>
  (Option.bind (d22 x0 (x4.1.1, (x5.1.1, ()))) fun (x7 : (((List IN) × Unit) × Unit)) =>
  (Option.bind (d23 x0 (x7.1.1, ())) fun (x8 : ((Bool × Unit) × Unit)) =>
  (lt (Bool.not x8.1.1) fun (x9 : Bool) =>
  (Option.bind (if (((x9 == Bool.false) && Bool.true) = Bool.true) then
  (d24 x0 (x7.1.1, (x4.1.1, (x5.1.1, ()))))
  else (Option.some ((Bool.false, ()), ()))) fun (x10 : ((Bool × Unit) × Unit)) =>
  (lt (Bool.not x10.1.1) fun (x11 : Bool) =>
  (lt (if (x9 = Bool.true) then
  Bool.true
  else x11) fun (x12 : Bool) =>
  (Option.bind (if (((x12 == Bool.false) && Bool.true) = Bool.true) then
  (d22 x0 (x4.1.1, (([] : List IN), ())))
  else (Option.some ((([] : List IN), ()), ()))) fun (x13 : (((List IN) × Unit) × Unit)) =>
  (Option.bind (if (((x12 == Bool.false) && Bool.true) = Bool.true) then
  (d15 x0 (x13.1.1, (x4.1.1, ())))
  else (Option.some ((Bool.false, ()), ()))) fun (x14 : ((Bool × Unit) × Unit)) =>
  (lt (Bool.not x14.1.1) fun (x15 : Bool) =>
  (lt (if (x12 = Bool.true) then
  Bool.true
  else x15) fun (x16 : Bool) =>
  (Option.bind (if (((x16 == Bool.false) && Bool.true) = Bool.true) then
  (d22 x0 (([] : List IN), (x4.1.1, ())))
  else (Option.some ((([] : List IN), ()), ()))) fun (x17 : (((List IN) × Unit) × Unit)) =>
  (Option.bind (if (((x16 == Bool.false) && Bool.true) = Bool.true) then
  (d15 x0 (x17.1.1, (x4.1.1, ())))
  else (Option.some ((Bool.false, ()), ()))) fun (x18 : ((Bool × Unit) × Unit)) =>
  (lt (Bool.not x18.1.1) fun (x19 : Bool) =>
  (lt (if (x16 = Bool.true) then
  Bool.true
  else x19) fun (x20 : Bool) =>
  (if (x20 = Bool.true) then
  (Option.some ((Bool.false, ()), ()))
  else (Option.bind (d22 x0 (x7.1.1, (x6.1.1, ()))) fun (x21 : (((List IN) × Unit) × Unit)) =>
  (Option.bind (d22 x0 (x5.1.1, (x6.1.1, ()))) fun (x22 : (((List IN) × Unit) × Unit)) =>
  (Option.bind (d22 x0 (x4.1.1, (x22.1.1, ()))) fun (x23 : (((List IN) × Unit) × Unit)) =>
  (Option.bind (d15 x0 (x21.1.1, (x23.1.1, ()))) fun (x24 : ((Bool × Unit) × Unit)) =>
  (lt (Bool.not x24.1.1) fun (x25 : Bool) =>
  (if (x25 = Bool.true) then
  (Option.some ((Bool.false, ()), ()))
  else (Option.bind (d25 x0 (x7.1.1, ((Neg.neg (9223372036854775808 : Int)), (x1.2.2.2.1, ())))) fun (x26 : (((List IN) × Unit) × Unit)) =>
  (Option.bind (d25 x0 (x7.1.1, (x1.2.2.2.1, ((9223372036854775807 : Int), ())))) fun (x27 : (((List IN) × Unit) × Unit)) =>
  (shr (d6_K1 x0) (fun (x28 : ((((List IN) × ((List IN) × ((List IN) × Unit))) × (Int × Unit)) → (Option ((Bool × Unit) × Unit)))) => (loopN (d6_L3 x28) x0 ((x7.1.1, (x27.1.1, (x26.1.1, ()))), ((0 : Int), (x1.2.2.2.1, ())))))))))))))))))))))))))))))))))))))
theorem k6 : c_fn Tryd.prog [(19, ⟨s19, d19⟩), (21, ⟨s21, d21⟩), (22, ⟨s22, d22⟩), (23, ⟨s23, d23⟩), (24, ⟨s24, d24⟩), (15, ⟨s15, d15⟩), (25, ⟨s25, d25⟩)] Tryd.f6 s6 h6 = some d6 := by kernel_rfl
end Go.Proofs.YticemfakkgebhaaDoor.L
