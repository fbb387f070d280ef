import Derived.Test.YtekgngedamnmaaaGreatDoorLiftC
import Derived.Test.YtekgngedamnmaaaGreatDoorProg
import Derived.KernelRfl
namespace Go.Proofs.YtekgngedamnmaaaGreatDoor.L
open Go Go.Lift Go.Proofs
set_option maxRecDepth 100000
set_option linter.unusedVariables false
abbrev IS : Type := (Int × (Int × (Int × (Int × (Int × Unit)))))
abbrev SV : Type := (Int × (Int × (Int × (Int × Unit))))
abbrev I2 : Type := (Int × (Int × Unit))
abbrev PC : Type := (Int × (Int × (Int × (Int × (Int × (Bool × Unit))))))
abbrev PT : Type := (SV × (Int × (Int × ((List Int) × ((List IS) × ((List PC) × (Int × ((List Int) × ((List I2) × ((List Bool) × ((List I2) × Unit)))))))))))
abbrev PO : Type := (Int × (Int × (Bool × (Int × (Int × (Int × Unit))))))
abbrev CH : Type := (Int × (Int × ((List Int) × I2)))
abbrev IM : Type := ((List PT) × ((List PO) × ((List CH) × Unit)))
def ks0 : List (TypeId × Kt) := [(172, .ifc 205 (.ptr 207 (.pair (.int .i64) (.pair (.int .i64) .unit)))), (95, .fnv)]
abbrev kIS : Kt := (.pair (.int .u8) (.pair (.int .u8) (.pair (.int .u8) (.pair (.int .u8) (.pair (.int .i32) .unit)))))
abbrev kSV : Kt := (.pair (.int .i64) (.pair (.int .i64) (.pair (.int .i64) (.pair (.int .i64) .unit))))
abbrev kI2 : Kt := (.pair (.int .i64) (.pair (.int .i64) .unit))
abbrev kPC : Kt := (.pair (.int .i64) (.pair (.int .i64) (.pair (.int .i64) (.pair (.int .i64) (.pair (.int .i64) (.pair .bool .unit))))))
abbrev kPT : Kt := (.pair kSV (.pair (.int .i64) (.pair (.int .i64) (.pair (.sl 2 (.int .i64)) (.pair (.sl 100 kIS) (.pair (.sl 68 kPC) (.pair (.int .i64) (.pair (.arr 8 (.int .i64)) (.pair (.sl 105 kI2) (.pair (.sl 4 .bool) (.pair (.sl 107 kI2) .unit)))))))))))
abbrev kPO : Kt := (.pair (.int .i64) (.pair (.int .i64) (.pair .bool (.pair (.int .i64) (.pair (.int .i64) (.pair (.int .i64) .unit))))))
abbrev kCH : Kt := (.pair (.int .i64) (.pair (.int .i64) (.pair (.sl 3 (.int .i64)) kI2)))
abbrev kIM : Kt := (.pair (.sl 64 kPT) (.pair (.sl 41 kPO) (.pair (.sl 34 kCH) .unit)))

/-- bulkhead/age.Oldest$1 -/
def s44 : Sig := ⟨[(kCH, .val), ((.ptr 3 (.int .i64)), .val)], [((.int .i64), .val), ((.int .i64), .val)]⟩
 def h44 : Hint := (.seq .leaf
   (.seq (.seq .leaf
   (.cond none
     (.seq .leaf
     .leaf)
     .leaf))
   (.seq .leaf
   .leaf)))
def d44 : (Nat → ((CH × (Int × Unit)) → (Option (I2 × Unit)))) :=
  (fun (x0 : Nat) => (fun (x1 : (CH × (Int × Unit))) => (lt (Decidable.decide (x1.2.1 < (1 : Int))) fun (x2 : Bool) =>
  (lt (Decidable.decide (x1.2.1 > (1099511627776 : Int))) fun (x3 : Bool) =>
  (lt (if (x2 = Bool.true) then
  Bool.true
  else x3) fun (x4 : Bool) =>
  (if (x4 = Bool.true) then
  (Option.some (((0 : Int), ((2 : Int), ())), ()))
  else (Option.some (((Go.IntKind.wrap Go.IntKind.i64 (x1.2.1 - (1 : Int))), ((0 : Int), ())), ()))))))))
theorem k44 : c_fn Tryz.prog ⟨[], ks0⟩ Tryz.f44 s44 h44 = some d44 := by kernel_rfl
/-- bulkhead/check.within -/
def s173 : Sig := ⟨[((.int .i64), .val), ((.int .i64), .val), ((.int .i64), .val)], [(.bool, .val)]⟩
 def h173 : Hint := (.seq .leaf
   (.seq .leaf
   .leaf))
def d173 : (Nat → ((Int × I2) → (Option ((Bool × Unit) × Unit)))) :=
  (fun (x0 : Nat) => (fun (x1 : (Int × I2)) => (lt (Decidable.decide (x1.1 ≥ x1.2.1)) fun (x2 : Bool) =>
  (lt (Decidable.decide (x1.1 ≤ x1.2.2.1)) fun (x3 : Bool) =>
  (Option.some (((if (x2 = Bool.true) then
  x3
  else Bool.false), ()), ()))))))
theorem k173 : c_fn Tryz.prog ⟨[], ks0⟩ Tryz.f173 s173 h173 = some d173 := by kernel_rfl
/-- bulkhead/check.counts$1 -/
def s187 : Sig := ⟨[(kPT, .val)], [(.bool, .val)]⟩
 def h187 : Hint := (.seq .leaf
   (.seq .leaf
   .leaf))
def d187 : (Nat → ((PT × Unit) → (Option ((Bool × Unit) × Unit)))) :=
  (fun (x0 : Nat) => (fun (x1 : (PT × Unit)) => (Option.bind (d173 x0 (x1.1.2.1, ((0 : Int), ((4096 : Int), ())))) fun (x2 : ((Bool × Unit) × Unit)) =>
  (lt (((List.length x1.1.2.2.2.2.1) : Nat) : Int) fun (x3 : Int) =>
  (lt (Decidable.decide (x3 ≤ (1024 : Int))) fun (x4 : Bool) =>
  (Option.some (((if (x2.1.1 = Bool.true) then
  x4
  else Bool.false), ()), ())))))))
theorem k187 : c_fn Tryz.prog ⟨[(173, ⟨s173, d173⟩)], ks0⟩ Tryz.f187 s187 h187 = some d187 := by kernel_rfl
/-- bulkhead/check.counts$2 -/
def s188 : Sig := ⟨[(kPT, .val)], [(.bool, .val)]⟩
 def h188 : Hint := (.seq .leaf
   (.seq .leaf
   .leaf))
def d188 : (Nat → ((PT × Unit) → (Option ((Bool × Unit) × Unit)))) :=
  (fun (x0 : Nat) => (fun (x1 : (PT × Unit)) => (Option.bind (d173 x0 ((((List.length x1.1.2.2.2.2.2.1) : Nat) : Int), ((1 : Int), ((16 : Int), ())))) fun (x2 : ((Bool × Unit) × Unit)) =>
  (Option.some ((x2.1.1, ()), ())))))
theorem k188 : c_fn Tryz.prog ⟨[(173, ⟨s173, d173⟩)], ks0⟩ Tryz.f188 s188 h188 = some d188 := by kernel_rfl
/-- bulkhead/check.counts$3 -/
def s189 : Sig := ⟨[(kPT, .val)], [(.bool, .val)]⟩
 def h189 : Hint := (.seq .leaf
   (.seq .leaf
   .leaf))
def d189 : (Nat → ((PT × Unit) → (Option ((Bool × Unit) × Unit)))) :=
  (fun (x0 : Nat) => (fun (x1 : (PT × Unit)) => (lt (((List.length x1.1.2.2.2.2.2.2.2.2.1) : Nat) : Int) fun (x2 : Int) =>
  (lt (((List.length x1.1.2.2.2.2.2.2.2.2.2.1) : Nat) : Int) fun (x3 : Int) =>
  (lt (((List.length x1.1.2.2.2.2.2.2.2.2.2.2.1) : Nat) : Int) fun (x4 : Int) =>
  (lt (if (x4 > (if (x3 > x2) then
  x3
  else x2)) then
  x4
  else (if (x3 > x2) then
  x3
  else x2)) fun (x5 : Int) =>
  (Option.some (((Decidable.decide (x5 ≤ (8 : Int))), ()), ()))))))))
theorem k189 : c_fn Tryz.prog ⟨[], ks0⟩ Tryz.f189 s189 h189 = some d189 := by kernel_rfl
/-- bulkhead/check.counts -/
def s154 : Sig := ⟨[], [((.sl 268 (.pair (.int .i64) (.pair .fnv .unit))), (.own (.ow .sh)))]⟩
 def h154 : Hint := (.seq .leaf
   (.seq .leaf
   .leaf))
def d154 : (Nat → (Unit → (Option (((List (Int × ((Option Nat) × Unit))) × Unit) × Unit)))) :=
  (fun (x0 : Nat) => (fun (x1 : Unit) => (Option.some (((((100 : Int), ((Option.some 187), ())) :: (((100 : Int), ((Option.some 188), ())) :: (((100 : Int), ((Option.some 189), ())) :: ([] : List (Int × ((Option Nat) × Unit)))))), ()), ()))))
theorem k154 : c_fn Tryz.prog ⟨[(187, ⟨s187, d187⟩), (188, ⟨s188, d188⟩), (189, ⟨s189, d189⟩)], ks0⟩ Tryz.f154 s154 h154 = some d154 := by kernel_rfl
/-- bulkhead/check.parts$1 -/
def s190 : Sig := ⟨[(kPT, .val)], [(.bool, .val)]⟩
 def h190 : Hint := (.seq .leaf
   (.seq .leaf
   .leaf))
def d190 : (Nat → ((PT × Unit) → (Option ((Bool × Unit) × Unit)))) :=
  (fun (x0 : Nat) => (fun (x1 : (PT × Unit)) => (Option.bind (d173 x0 (x1.1.2.2.1, ((0 : Int), (x1.1.2.1, ())))) fun (x2 : ((Bool × Unit) × Unit)) =>
  (lt (((List.length x1.1.2.2.2.1) : Nat) : Int) fun (x3 : Int) =>
  (lt (Decidable.decide (x3 ≤ x1.1.2.1)) fun (x4 : Bool) =>
  (Option.some (((if (x2.1.1 = Bool.true) then
  x4
  else Bool.false), ()), ())))))))
theorem k190 : c_fn Tryz.prog ⟨[(173, ⟨s173, d173⟩)], ks0⟩ Tryz.f190 s190 h190 = some d190 := by kernel_rfl
/-- bulkhead/check.parts$2 -/
def s191 : Sig := ⟨[(kPT, .val)], [(.bool, .val)]⟩
 def h191 : Hint := (.seq .leaf
   (.seq .leaf
   .leaf))
def d191 : (Nat → ((PT × Unit) → (Option ((Bool × Unit) × Unit)))) :=
  (fun (x0 : Nat) => (fun (x1 : (PT × Unit)) => (lt (((List.length x1.1.2.2.2.2.1) : Nat) : Int) fun (x2 : Int) =>
  (Option.some (((Decidable.decide (x2 > (0 : Int))), ()), ())))))
theorem k191 : c_fn Tryz.prog ⟨[], ks0⟩ Tryz.f191 s191 h191 = some d191 := by kernel_rfl
/-- bulkhead/check.proc -/
def s195 : Sig := ⟨[(kPC, .val), ((.int .i64), .val)], [(.bool, .val)]⟩
 def h195 : Hint := (.seq .leaf
   (.seq .leaf
   (.seq .leaf
   .leaf)))
def d195 : (Nat → ((PC × (Int × Unit)) → (Option ((Bool × Unit) × Unit)))) :=
  (fun (x0 : Nat) => (fun (x1 : (PC × (Int × Unit))) => (lt (Go.IntKind.wrap Go.IntKind.i64 (x1.2.1 - (1 : Int))) fun (x2 : Int) =>
  (Option.bind (d173 x0 (x1.1.1, ((0 : Int), (x2, ())))) fun (x3 : ((Bool × Unit) × Unit)) =>
  (Option.bind (if (((x3.1.1 == Bool.true) && Bool.true) = Bool.true) then
  (d173 x0 (x1.1.2.1, ((0 : Int), ((255 : Int), ()))))
  else (Option.some ((Bool.false, ()), ()))) fun (x4 : ((Bool × Unit) × Unit)) =>
  (lt (if (x3.1.1 = Bool.true) then
  x4.1.1
  else Bool.false) fun (x5 : Bool) =>
  (Option.bind (if (((x5 == Bool.true) && Bool.true) = Bool.true) then
  (d173 x0 (x1.1.2.2.2.2.1, ((0 : Int), ((2147483647 : Int), ()))))
  else (Option.some ((Bool.false, ()), ()))) fun (x6 : ((Bool × Unit) × Unit)) =>
  (lt (if (x5 = Bool.true) then
  x6.1.1
  else Bool.false) fun (x7 : Bool) =>
  (Option.bind (if (((x7 == Bool.true) && Bool.true) = Bool.true) then
  (d173 x0 (x1.1.2.2.1, ((0 : Int), ((1099511627775 : Int), ()))))
  else (Option.some ((Bool.false, ()), ()))) fun (x8 : ((Bool × Unit) × Unit)) =>
  (lt (if (x7 = Bool.true) then
  x8.1.1
  else Bool.false) fun (x9 : Bool) =>
  (Option.bind (if (((x9 == Bool.true) && Bool.true) = Bool.true) then
  (d173 x0 (x1.1.2.2.2.1, ((0 : Int), ((1099511627775 : Int), ()))))
  else (Option.some ((Bool.false, ()), ()))) fun (x10 : ((Bool × Unit) × Unit)) =>
  (lt (if (x9 = Bool.true) then
  x10.1.1
  else Bool.false) fun (x11 : Bool) =>
  (lt (x1.1.2.2.1 == (0 : Int)) fun (x12 : Bool) =>
  (lt (Decidable.decide (x1.1.2.2.2.1 ≤ x1.1.2.2.1)) fun (x13 : Bool) =>
  (lt (if (x12 = Bool.true) then
  Bool.true
  else x13) fun (x14 : Bool) =>
  (Option.some (((if (x11 = Bool.true) then
  x14
  else Bool.false), ()), ())))))))))))))))))
theorem k195 : c_fn Tryz.prog ⟨[(173, ⟨s173, d173⟩)], ks0⟩ Tryz.f195 s195 h195 = some d195 := by kernel_rfl
/-- bulkhead/check.parts$3$1 -/
def s194 : Sig := ⟨[(kPC, .val), ((.ptr 64 kPT), .val)], [(.bool, .val)]⟩
 def h194 : Hint := (.seq .leaf
   (.seq .leaf
   .leaf))
def d194 : (Nat → ((PC × (PT × Unit)) → (Option ((Bool × Unit) × Unit)))) :=
  (fun (x0 : Nat) => (fun (x1 : (PC × (PT × Unit))) => (Option.bind (d195 x0 (x1.1, ((((List.length x1.2.1.2.2.2.2.1) : Nat) : Int), ()))) fun (x2 : ((Bool × Unit) × Unit)) =>
  (Option.some ((x2.1.1, ()), ())))))
theorem k194 : c_fn Tryz.prog ⟨[(195, ⟨s195, d195⟩)], ks0⟩ Tryz.f194 s194 h194 = some d194 := by kernel_rfl
/-- bulkhead/check.all[bulkhead/api.Proc]$1 -/
def s227 : Sig := ⟨[(kPC, .val), ((.ptr 271 (.fn 194 (.pair (.ptr 64 kPT) .unit))), .val)], [(.bool, .val)]⟩
 def h227 : Hint := (.seq .leaf
   (.seq .leaf
   .leaf))
def d227 : (Nat → ((PC × ((PT × Unit) × Unit)) → (Option ((Bool × Unit) × Unit)))) :=
  (fun (x0 : Nat) => (fun (x1 : (PC × ((PT × Unit) × Unit))) => (Option.bind (d194 x0 (x1.1, (x1.2.1.1, ()))) fun (x2 : ((Bool × Unit) × Unit)) =>
  (Option.some (((Bool.not x2.1.1), ()), ())))))
theorem k227 : c_fn Tryz.prog ⟨[(194, ⟨s194, d194⟩)], ks0⟩ Tryz.f227 s227 h227 = some d227 := by kernel_rfl
/-- slices.IndexFunc[[]bulkhead/api.Proc,bulkhead/api.Proc] -/
def s238 : Sig := ⟨[((.sl 68 kPC), .val), ((.fn 227 (.pair (.ptr 271 (.fn 194 (.pair (.ptr 64 kPT) .unit))) .unit)), .val)], [((.int .i64), .val)]⟩
 def h238 : Hint := (.seq .leaf
   (.seq (.seq .leaf
   (.block ⟨[], []⟩ true
     (.loop ⟨[], [((8, 0), (.val (.int .i64))), ((0, 0), (.val (.sl 68 kPC))), ((1, 0), (.val (.fn 227 (.pair (.ptr 271 (.fn 194 (.pair (.ptr 64 kPT) .unit))) .unit)))), ((7, 0), (.val (.int .i64)))]⟩
       (.seq .leaf
       (.seq (.cond none
         .leaf
         .leaf)
       (.seq (.block ⟨[], [((0, 0), (.val (.sl 68 kPC))), ((1, 0), (.val (.fn 227 (.pair (.ptr 271 (.fn 194 (.pair (.ptr 64 kPT) .unit))) .unit)))), ((7, 0), (.val (.int .i64))), ((8, 0), (.val (.int .i64)))]⟩ true
         (.seq .leaf
         (.seq .leaf
         (.cond none
           (.seq .leaf
           .leaf)
           .leaf))))
       .leaf))))))
   (.seq .leaf
   .leaf)))
def d238_K1 (x3 : ((Unit × (Int × ((List PC) × (((PT × Unit) × Unit) × (Int × Unit))))) → (Option ((Int × Unit) × Unit)))) : ((Unit × ((List PC) × (((PT × Unit) × Unit) × I2))) → (Option ((Int × Unit) × Unit))) :=
  (fun (x6 : (Unit × ((List PC) × (((PT × Unit) × Unit) × I2)))) => (x3 ((), ((Go.IntKind.wrap Go.IntKind.i64 (x6.2.2.2.2.1 + (1 : Int))), (x6.2.1, (x6.2.2.1, (x6.2.2.2.1, ())))))))
def d238_L2 (x0 : Nat) (x2 : ((Unit × Unit) → (Option ((Int × Unit) × Unit)))) : (((Unit × (Int × ((List PC) × (((PT × Unit) × Unit) × (Int × Unit))))) → (Option ((Int × Unit) × Unit))) → ((Unit × (Int × ((List PC) × (((PT × Unit) × Unit) × (Int × Unit))))) → (Option ((Int × Unit) × Unit)))) :=
  (fun (x3 : ((Unit × (Int × ((List PC) × (((PT × Unit) × Unit) × (Int × Unit))))) → (Option ((Int × Unit) × Unit)))) => (fun (x4 : (Unit × (Int × ((List PC) × (((PT × Unit) × Unit) × (Int × Unit)))))) => (lt (Decidable.decide (x4.2.1 < x4.2.2.2.2.1)) fun (x5 : Bool) =>
  (if (x5 = Bool.true) then
  (shr (d238_K1 x3) (fun (x6 : ((Unit × ((List PC) × (((PT × Unit) × Unit) × I2))) → (Option ((Int × Unit) × Unit)))) => (if (((Decidable.decide ((0 : Int) ≤ x4.2.1)) && (Decidable.decide (x4.2.1 < (((List.length x4.2.2.1) : Nat) : Int)))) = Bool.true) then
  (lt (List.getD x4.2.2.1 (Int.toNat x4.2.1) ((0 : Int), ((0 : Int), ((0 : Int), ((0 : Int), ((0 : Int), (Bool.false, ()))))))) fun (x7 : PC) =>
  (Option.bind (d227 x0 (x7, (x4.2.2.2.1.1, ()))) fun (x8 : ((Bool × Unit) × Unit)) =>
  (if (x8.1.1 = Bool.true) then
  (Option.some ((x4.2.1, ()), ()))
  else (x6 ((), (x4.2.2.1, (x4.2.2.2.1, (x4.2.2.2.2.1, (x4.2.1, ())))))))))
  else (Option.none))))
  else (x2 ((), ()))))))
def d238 : (Nat → (((List PC) × (((PT × Unit) × Unit) × Unit)) → (Option ((Int × Unit) × Unit)))) :=
  (fun (x0 : Nat) => (fun (x1 : ((List PC) × (((PT × Unit) × Unit) × Unit))) => (shr (fun (x2 : (Unit × Unit)) => (Option.some (((Neg.neg (1 : Int)), ()), ()))) (fun (x2 : ((Unit × Unit) → (Option ((Int × Unit) × Unit)))) => (loopN (d238_L2 x0 x2) x0 ((), ((0 : Int), (x1.1, (x1.2.1, ((((List.length x1.1) : Nat) : Int), ()))))))))))
theorem k238 : c_fn Tryz.prog ⟨[(194, ⟨s194, d194⟩), (227, ⟨s227, d227⟩)], ks0⟩ Tryz.f238 s238 h238 = some d238 := by kernel_rfl
/-- slices.ContainsFunc[[]bulkhead/api.Proc,bulkhead/api.Proc] -/
def s226 : Sig := ⟨[((.sl 68 kPC), .val), ((.fn 227 (.pair (.ptr 271 (.fn 194 (.pair (.ptr 64 kPT) .unit))) .unit)), .val)], [(.bool, .val)]⟩
 def h226 : Hint := (.seq .leaf
   (.seq .leaf
   .leaf))
def d226 : (Nat → (((List PC) × (((PT × Unit) × Unit) × Unit)) → (Option ((Bool × Unit) × Unit)))) :=
  (fun (x0 : Nat) => (fun (x1 : ((List PC) × (((PT × Unit) × Unit) × Unit))) => (Option.bind (d238 x0 (x1.1, (x1.2.1, ()))) fun (x2 : ((Int × Unit) × Unit)) =>
  (Option.some (((Decidable.decide (x2.1.1 ≥ (0 : Int))), ()), ())))))
theorem k226 : c_fn Tryz.prog ⟨[(238, ⟨s238, d238⟩), (194, ⟨s194, d194⟩), (227, ⟨s227, d227⟩)], ks0⟩ Tryz.f226 s226 h226 = some d226 := by kernel_rfl
/-- bulkhead/check.all[bulkhead/api.Proc] -/
def s193 : Sig := ⟨[((.sl 68 kPC), .val), ((.fn 194 (.pair (.ptr 64 kPT) .unit)), .val)], [(.bool, .val)]⟩
 def h193 : Hint := (.seq .leaf
   (.seq (.pre ⟨[], [((3, 0), (.val (.ptr 271 (.fn 194 (.pair (.ptr 64 kPT) .unit))))), ((0, 0), (.val (.sl 68 kPC)))]⟩ .leaf)
   .leaf))
def d193 : (Nat → (((List PC) × ((PT × Unit) × Unit)) → (Option ((Bool × Unit) × Unit)))) :=
  (fun (x0 : Nat) => (fun (x1 : ((List PC) × ((PT × Unit) × Unit))) => (Option.bind (d226 x0 (x1.1, ((x1.2.1, ()), ()))) fun (x2 : ((Bool × Unit) × Unit)) =>
  (Option.some (((Bool.not x2.1.1), ()), ())))))
theorem k193 : c_fn Tryz.prog ⟨[(227, ⟨s227, d227⟩), (226, ⟨s226, d226⟩), (194, ⟨s194, d194⟩)], ks0⟩ Tryz.f193 s193 h193 = some d193 := by kernel_rfl
/-- bulkhead/check.parts$3 -/
def s192 : Sig := ⟨[(kPT, .val)], [(.bool, .val)]⟩
 def h192 : Hint := (.seq .leaf
   (.seq (.pre ⟨[], [((1, 0), (.val (.ptr 64 kPT)))]⟩ .leaf)
   .leaf))
def d192 : (Nat → ((PT × Unit) → (Option ((Bool × Unit) × Unit)))) :=
  (fun (x0 : Nat) => (fun (x1 : (PT × Unit)) => (Option.bind (d193 x0 (x1.1.2.2.2.2.2.1, ((x1.1, ()), ()))) fun (x2 : ((Bool × Unit) × Unit)) =>
  (Option.some ((x2.1.1, ()), ())))))
theorem k192 : c_fn Tryz.prog ⟨[(194, ⟨s194, d194⟩), (193, ⟨s193, d193⟩)], ks0⟩ Tryz.f192 s192 h192 = some d192 := by kernel_rfl
/-- bulkhead/check.parts$4$1 -/
def s198 : Sig := ⟨[(kI2, .val)], [(.bool, .val)]⟩
 def h198 : Hint := (.seq .leaf
   (.seq .leaf
   .leaf))
def d198 : (Nat → ((I2 × Unit) → (Option ((Bool × Unit) × Unit)))) :=
  (fun (x0 : Nat) => (fun (x1 : (I2 × Unit)) => (Option.bind (d173 x0 (x1.1.2.1, ((1 : Int), ((2147483647 : Int), ())))) fun (x2 : ((Bool × Unit) × Unit)) =>
  (Option.bind (if (((x2.1.1 == Bool.true) && Bool.true) = Bool.true) then
  (d173 x0 (x1.1.1, ((0 : Int), (x1.1.2.1, ()))))
  else (Option.some ((Bool.false, ()), ()))) fun (x3 : ((Bool × Unit) × Unit)) =>
  (Option.some (((if (x2.1.1 = Bool.true) then
  x3.1.1
  else Bool.false), ()), ()))))))
theorem k198 : c_fn Tryz.prog ⟨[(173, ⟨s173, d173⟩)], ks0⟩ Tryz.f198 s198 h198 = some d198 := by kernel_rfl
/-- bulkhead/check.all[bulkhead/api.Sem]$1 -/
def s229 : Sig := ⟨[(kI2, .val), ((.ptr 273 (.fn 198 .unit)), .val)], [(.bool, .val)]⟩
 def h229 : Hint := (.seq .leaf
   (.seq .leaf
   .leaf))
def d229 : (Nat → ((I2 × (Unit × Unit)) → (Option ((Bool × Unit) × Unit)))) :=
  (fun (x0 : Nat) => (fun (x1 : (I2 × (Unit × Unit))) => (Option.bind (d198 x0 (x1.1, ())) fun (x2 : ((Bool × Unit) × Unit)) =>
  (Option.some (((Bool.not x2.1.1), ()), ())))))
theorem k229 : c_fn Tryz.prog ⟨[(198, ⟨s198, d198⟩)], ks0⟩ Tryz.f229 s229 h229 = some d229 := by kernel_rfl
/-- slices.IndexFunc[[]bulkhead/api.Sem,bulkhead/api.Sem] -/
def s239 : Sig := ⟨[((.sl 105 kI2), .val), ((.fn 229 (.pair (.ptr 273 (.fn 198 .unit)) .unit)), .val)], [((.int .i64), .val)]⟩
 def h239 : Hint := (.seq .leaf
   (.seq (.seq .leaf
   (.block ⟨[], []⟩ true
     (.loop ⟨[], [((8, 0), (.val (.int .i64))), ((0, 0), (.val (.sl 105 kI2))), ((1, 0), (.val (.fn 229 (.pair (.ptr 273 (.fn 198 .unit)) .unit)))), ((7, 0), (.val (.int .i64)))]⟩
       (.seq .leaf
       (.seq (.cond none
         .leaf
         .leaf)
       (.seq (.block ⟨[], [((0, 0), (.val (.sl 105 kI2))), ((1, 0), (.val (.fn 229 (.pair (.ptr 273 (.fn 198 .unit)) .unit)))), ((7, 0), (.val (.int .i64))), ((8, 0), (.val (.int .i64)))]⟩ true
         (.seq .leaf
         (.seq .leaf
         (.cond none
           (.seq .leaf
           .leaf)
           .leaf))))
       .leaf))))))
   (.seq .leaf
   .leaf)))
def d239_K1 (x3 : ((Unit × (Int × ((List I2) × ((Unit × Unit) × (Int × Unit))))) → (Option ((Int × Unit) × Unit)))) : ((Unit × ((List I2) × ((Unit × Unit) × I2))) → (Option ((Int × Unit) × Unit))) :=
  (fun (x6 : (Unit × ((List I2) × ((Unit × Unit) × I2)))) => (x3 ((), ((Go.IntKind.wrap Go.IntKind.i64 (x6.2.2.2.2.1 + (1 : Int))), (x6.2.1, (x6.2.2.1, (x6.2.2.2.1, ())))))))
def d239_L2 (x0 : Nat) (x2 : ((Unit × Unit) → (Option ((Int × Unit) × Unit)))) : (((Unit × (Int × ((List I2) × ((Unit × Unit) × (Int × Unit))))) → (Option ((Int × Unit) × Unit))) → ((Unit × (Int × ((List I2) × ((Unit × Unit) × (Int × Unit))))) → (Option ((Int × Unit) × Unit)))) :=
  (fun (x3 : ((Unit × (Int × ((List I2) × ((Unit × Unit) × (Int × Unit))))) → (Option ((Int × Unit) × Unit)))) => (fun (x4 : (Unit × (Int × ((List I2) × ((Unit × Unit) × (Int × Unit)))))) => (lt (Decidable.decide (x4.2.1 < x4.2.2.2.2.1)) fun (x5 : Bool) =>
  (if (x5 = Bool.true) then
  (shr (d239_K1 x3) (fun (x6 : ((Unit × ((List I2) × ((Unit × Unit) × I2))) → (Option ((Int × Unit) × Unit)))) => (if (((Decidable.decide ((0 : Int) ≤ x4.2.1)) && (Decidable.decide (x4.2.1 < (((List.length x4.2.2.1) : Nat) : Int)))) = Bool.true) then
  (lt (List.getD x4.2.2.1 (Int.toNat x4.2.1) ((0 : Int), ((0 : Int), ()))) fun (x7 : I2) =>
  (Option.bind (d229 x0 (x7, (x4.2.2.2.1.1, ()))) fun (x8 : ((Bool × Unit) × Unit)) =>
  (if (x8.1.1 = Bool.true) then
  (Option.some ((x4.2.1, ()), ()))
  else (x6 ((), (x4.2.2.1, (x4.2.2.2.1, (x4.2.2.2.2.1, (x4.2.1, ())))))))))
  else (Option.none))))
  else (x2 ((), ()))))))
def d239 : (Nat → (((List I2) × ((Unit × Unit) × Unit)) → (Option ((Int × Unit) × Unit)))) :=
  (fun (x0 : Nat) => (fun (x1 : ((List I2) × ((Unit × Unit) × Unit))) => (shr (fun (x2 : (Unit × Unit)) => (Option.some (((Neg.neg (1 : Int)), ()), ()))) (fun (x2 : ((Unit × Unit) → (Option ((Int × Unit) × Unit)))) => (loopN (d239_L2 x0 x2) x0 ((), ((0 : Int), (x1.1, (x1.2.1, ((((List.length x1.1) : Nat) : Int), ()))))))))))
theorem k239 : c_fn Tryz.prog ⟨[(198, ⟨s198, d198⟩), (229, ⟨s229, d229⟩)], ks0⟩ Tryz.f239 s239 h239 = some d239 := by kernel_rfl
/-- slices.ContainsFunc[[]bulkhead/api.Sem,bulkhead/api.Sem] -/
def s228 : Sig := ⟨[((.sl 105 kI2), .val), ((.fn 229 (.pair (.ptr 273 (.fn 198 .unit)) .unit)), .val)], [(.bool, .val)]⟩
 def h228 : Hint := (.seq .leaf
   (.seq .leaf
   .leaf))
def d228 : (Nat → (((List I2) × ((Unit × Unit) × Unit)) → (Option ((Bool × Unit) × Unit)))) :=
  (fun (x0 : Nat) => (fun (x1 : ((List I2) × ((Unit × Unit) × Unit))) => (Option.bind (d239 x0 (x1.1, (x1.2.1, ()))) fun (x2 : ((Int × Unit) × Unit)) =>
  (Option.some (((Decidable.decide (x2.1.1 ≥ (0 : Int))), ()), ())))))
theorem k228 : c_fn Tryz.prog ⟨[(239, ⟨s239, d239⟩), (198, ⟨s198, d198⟩), (229, ⟨s229, d229⟩)], ks0⟩ Tryz.f228 s228 h228 = some d228 := by kernel_rfl
/-- bulkhead/check.all[bulkhead/api.Sem] -/
def s197 : Sig := ⟨[((.sl 105 kI2), .val), ((.fn 198 .unit), .val)], [(.bool, .val)]⟩
 def h197 : Hint := (.seq .leaf
   (.seq (.pre ⟨[], [((3, 0), (.val (.ptr 273 (.fn 198 .unit)))), ((0, 0), (.val (.sl 105 kI2)))]⟩ .leaf)
   .leaf))
def d197 : (Nat → (((List I2) × (Unit × Unit)) → (Option ((Bool × Unit) × Unit)))) :=
  (fun (x0 : Nat) => (fun (x1 : ((List I2) × (Unit × Unit))) => (Option.bind (d228 x0 (x1.1, ((x1.2.1, ()), ()))) fun (x2 : ((Bool × Unit) × Unit)) =>
  (Option.some (((Bool.not x2.1.1), ()), ())))))
theorem k197 : c_fn Tryz.prog ⟨[(229, ⟨s229, d229⟩), (228, ⟨s228, d228⟩), (198, ⟨s198, d198⟩)], ks0⟩ Tryz.f197 s197 h197 = some d197 := by kernel_rfl
/-- bulkhead/check.parts$4 -/
def s196 : Sig := ⟨[(kPT, .val)], [(.bool, .val)]⟩
 def h196 : Hint := (.seq .leaf
   (.seq .leaf
   .leaf))
def d196 : (Nat → ((PT × Unit) → (Option ((Bool × Unit) × Unit)))) :=
  (fun (x0 : Nat) => (fun (x1 : (PT × Unit)) => (Option.bind (d197 x0 (x1.1.2.2.2.2.2.2.2.2.1, ((), ()))) fun (x2 : ((Bool × Unit) × Unit)) =>
  (Option.some ((x2.1.1, ()), ())))))
theorem k196 : c_fn Tryz.prog ⟨[(197, ⟨s197, d197⟩), (198, ⟨s198, d198⟩)], ks0⟩ Tryz.f196 s196 h196 = some d196 := by kernel_rfl
/-- bulkhead/check.parts$5$1 -/
def s201 : Sig := ⟨[(kI2, .val)], [(.bool, .val)]⟩
 def h201 : Hint := (.seq .leaf
   (.seq .leaf
   .leaf))
def d201 : (Nat → ((I2 × Unit) → (Option ((Bool × Unit) × Unit)))) :=
  (fun (x0 : Nat) => (fun (x1 : (I2 × Unit)) => (Option.bind (d173 x0 (x1.1.1, ((1 : Int), ((16 : Int), ())))) fun (x2 : ((Bool × Unit) × Unit)) =>
  (Option.bind (if (((x2.1.1 == Bool.true) && Bool.true) = Bool.true) then
  (d173 x0 (x1.1.2.1, ((1 : Int), ((64 : Int), ()))))
  else (Option.some ((Bool.false, ()), ()))) fun (x3 : ((Bool × Unit) × Unit)) =>
  (Option.some (((if (x2.1.1 = Bool.true) then
  x3.1.1
  else Bool.false), ()), ()))))))
theorem k201 : c_fn Tryz.prog ⟨[(173, ⟨s173, d173⟩)], ks0⟩ Tryz.f201 s201 h201 = some d201 := by kernel_rfl
/-- bulkhead/check.all[bulkhead/api.Buffer]$1 -/
def s231 : Sig := ⟨[(kI2, .val), ((.ptr 275 (.fn 201 .unit)), .val)], [(.bool, .val)]⟩
 def h231 : Hint := (.seq .leaf
   (.seq .leaf
   .leaf))
def d231 : (Nat → ((I2 × (Unit × Unit)) → (Option ((Bool × Unit) × Unit)))) :=
  (fun (x0 : Nat) => (fun (x1 : (I2 × (Unit × Unit))) => (Option.bind (d201 x0 (x1.1, ())) fun (x2 : ((Bool × Unit) × Unit)) =>
  (Option.some (((Bool.not x2.1.1), ()), ())))))
theorem k231 : c_fn Tryz.prog ⟨[(201, ⟨s201, d201⟩)], ks0⟩ Tryz.f231 s231 h231 = some d231 := by kernel_rfl
/-- slices.IndexFunc[[]bulkhead/api.Buffer,bulkhead/api.Buffer] -/
def s240 : Sig := ⟨[((.sl 107 kI2), .val), ((.fn 231 (.pair (.ptr 275 (.fn 201 .unit)) .unit)), .val)], [((.int .i64), .val)]⟩
 def h240 : Hint := (.seq .leaf
   (.seq (.seq .leaf
   (.block ⟨[], []⟩ true
     (.loop ⟨[], [((8, 0), (.val (.int .i64))), ((0, 0), (.val (.sl 107 kI2))), ((1, 0), (.val (.fn 231 (.pair (.ptr 275 (.fn 201 .unit)) .unit)))), ((7, 0), (.val (.int .i64)))]⟩
       (.seq .leaf
       (.seq (.cond none
         .leaf
         .leaf)
       (.seq (.block ⟨[], [((0, 0), (.val (.sl 107 kI2))), ((1, 0), (.val (.fn 231 (.pair (.ptr 275 (.fn 201 .unit)) .unit)))), ((7, 0), (.val (.int .i64))), ((8, 0), (.val (.int .i64)))]⟩ true
         (.seq .leaf
         (.seq .leaf
         (.cond none
           (.seq .leaf
           .leaf)
           .leaf))))
       .leaf))))))
   (.seq .leaf
   .leaf)))
def d240_K1 (x3 : ((Unit × (Int × ((List I2) × ((Unit × Unit) × (Int × Unit))))) → (Option ((Int × Unit) × Unit)))) : ((Unit × ((List I2) × ((Unit × Unit) × I2))) → (Option ((Int × Unit) × Unit))) :=
  (fun (x6 : (Unit × ((List I2) × ((Unit × Unit) × I2)))) => (x3 ((), ((Go.IntKind.wrap Go.IntKind.i64 (x6.2.2.2.2.1 + (1 : Int))), (x6.2.1, (x6.2.2.1, (x6.2.2.2.1, ())))))))
def d240_L2 (x0 : Nat) (x2 : ((Unit × Unit) → (Option ((Int × Unit) × Unit)))) : (((Unit × (Int × ((List I2) × ((Unit × Unit) × (Int × Unit))))) → (Option ((Int × Unit) × Unit))) → ((Unit × (Int × ((List I2) × ((Unit × Unit) × (Int × Unit))))) → (Option ((Int × Unit) × Unit)))) :=
  (fun (x3 : ((Unit × (Int × ((List I2) × ((Unit × Unit) × (Int × Unit))))) → (Option ((Int × Unit) × Unit)))) => (fun (x4 : (Unit × (Int × ((List I2) × ((Unit × Unit) × (Int × Unit)))))) => (lt (Decidable.decide (x4.2.1 < x4.2.2.2.2.1)) fun (x5 : Bool) =>
  (if (x5 = Bool.true) then
  (shr (d240_K1 x3) (fun (x6 : ((Unit × ((List I2) × ((Unit × Unit) × I2))) → (Option ((Int × Unit) × Unit)))) => (if (((Decidable.decide ((0 : Int) ≤ x4.2.1)) && (Decidable.decide (x4.2.1 < (((List.length x4.2.2.1) : Nat) : Int)))) = Bool.true) then
  (lt (List.getD x4.2.2.1 (Int.toNat x4.2.1) ((0 : Int), ((0 : Int), ()))) fun (x7 : I2) =>
  (Option.bind (d231 x0 (x7, (x4.2.2.2.1.1, ()))) fun (x8 : ((Bool × Unit) × Unit)) =>
  (if (x8.1.1 = Bool.true) then
  (Option.some ((x4.2.1, ()), ()))
  else (x6 ((), (x4.2.2.1, (x4.2.2.2.1, (x4.2.2.2.2.1, (x4.2.1, ())))))))))
  else (Option.none))))
  else (x2 ((), ()))))))
def d240 : (Nat → (((List I2) × ((Unit × Unit) × Unit)) → (Option ((Int × Unit) × Unit)))) :=
  (fun (x0 : Nat) => (fun (x1 : ((List I2) × ((Unit × Unit) × Unit))) => (shr (fun (x2 : (Unit × Unit)) => (Option.some (((Neg.neg (1 : Int)), ()), ()))) (fun (x2 : ((Unit × Unit) → (Option ((Int × Unit) × Unit)))) => (loopN (d240_L2 x0 x2) x0 ((), ((0 : Int), (x1.1, (x1.2.1, ((((List.length x1.1) : Nat) : Int), ()))))))))))
theorem k240 : c_fn Tryz.prog ⟨[(201, ⟨s201, d201⟩), (231, ⟨s231, d231⟩)], ks0⟩ Tryz.f240 s240 h240 = some d240 := by kernel_rfl
/-- slices.ContainsFunc[[]bulkhead/api.Buffer,bulkhead/api.Buffer] -/
def s230 : Sig := ⟨[((.sl 107 kI2), .val), ((.fn 231 (.pair (.ptr 275 (.fn 201 .unit)) .unit)), .val)], [(.bool, .val)]⟩
 def h230 : Hint := (.seq .leaf
   (.seq .leaf
   .leaf))
def d230 : (Nat → (((List I2) × ((Unit × Unit) × Unit)) → (Option ((Bool × Unit) × Unit)))) :=
  (fun (x0 : Nat) => (fun (x1 : ((List I2) × ((Unit × Unit) × Unit))) => (Option.bind (d240 x0 (x1.1, (x1.2.1, ()))) fun (x2 : ((Int × Unit) × Unit)) =>
  (Option.some (((Decidable.decide (x2.1.1 ≥ (0 : Int))), ()), ())))))
theorem k230 : c_fn Tryz.prog ⟨[(240, ⟨s240, d240⟩), (201, ⟨s201, d201⟩), (231, ⟨s231, d231⟩)], ks0⟩ Tryz.f230 s230 h230 = some d230 := by kernel_rfl
/-- bulkhead/check.all[bulkhead/api.Buffer] -/
def s200 : Sig := ⟨[((.sl 107 kI2), .val), ((.fn 201 .unit), .val)], [(.bool, .val)]⟩
 def h200 : Hint := (.seq .leaf
   (.seq (.pre ⟨[], [((3, 0), (.val (.ptr 275 (.fn 201 .unit)))), ((0, 0), (.val (.sl 107 kI2)))]⟩ .leaf)
   .leaf))
def d200 : (Nat → (((List I2) × (Unit × Unit)) → (Option ((Bool × Unit) × Unit)))) :=
  (fun (x0 : Nat) => (fun (x1 : ((List I2) × (Unit × Unit))) => (Option.bind (d230 x0 (x1.1, ((x1.2.1, ()), ()))) fun (x2 : ((Bool × Unit) × Unit)) =>
  (Option.some (((Bool.not x2.1.1), ()), ())))))
theorem k200 : c_fn Tryz.prog ⟨[(231, ⟨s231, d231⟩), (230, ⟨s230, d230⟩), (201, ⟨s201, d201⟩)], ks0⟩ Tryz.f200 s200 h200 = some d200 := by kernel_rfl
/-- bulkhead/check.parts$5 -/
def s199 : Sig := ⟨[(kPT, .val)], [(.bool, .val)]⟩
 def h199 : Hint := (.seq .leaf
   (.seq .leaf
   .leaf))
def d199 : (Nat → ((PT × Unit) → (Option ((Bool × Unit) × Unit)))) :=
  (fun (x0 : Nat) => (fun (x1 : (PT × Unit)) => (Option.bind (d200 x0 (x1.1.2.2.2.2.2.2.2.2.2.2.1, ((), ()))) fun (x2 : ((Bool × Unit) × Unit)) =>
  (Option.some ((x2.1.1, ()), ())))))
theorem k199 : c_fn Tryz.prog ⟨[(200, ⟨s200, d200⟩), (201, ⟨s201, d201⟩)], ks0⟩ Tryz.f199 s199 h199 = some d199 := by kernel_rfl
/-- bulkhead/check.parts$6$1 -/
def s204 : Sig := ⟨[((.int .i64), .val)], [(.bool, .val)]⟩
 def h204 : Hint := (.seq .leaf
   (.seq .leaf
   .leaf))
def d204 : (Nat → ((Int × Unit) → (Option ((Bool × Unit) × Unit)))) :=
  (fun (x0 : Nat) => (fun (x1 : (Int × Unit)) => (Option.bind (d173 x0 (x1.1, ((0 : Int), ((5 : Int), ())))) fun (x2 : ((Bool × Unit) × Unit)) =>
  (Option.some ((x2.1.1, ()), ())))))
theorem k204 : c_fn Tryz.prog ⟨[(173, ⟨s173, d173⟩)], ks0⟩ Tryz.f204 s204 h204 = some d204 := by kernel_rfl
/-- bulkhead/check.all[int]$1 -/
def s233 : Sig := ⟨[((.int .i64), .val), ((.ptr 203 (.fn 204 .unit)), .val)], [(.bool, .val)]⟩
 def h233 : Hint := (.seq .leaf
   (.seq .leaf
   .leaf))
def d233 : (Nat → ((Int × (Unit × Unit)) → (Option ((Bool × Unit) × Unit)))) :=
  (fun (x0 : Nat) => (fun (x1 : (Int × (Unit × Unit))) => (Option.bind (d204 x0 (x1.1, ())) fun (x2 : ((Bool × Unit) × Unit)) =>
  (Option.some (((Bool.not x2.1.1), ()), ())))))
theorem k233 : c_fn Tryz.prog ⟨[(204, ⟨s204, d204⟩)], ks0⟩ Tryz.f233 s233 h233 = some d233 := by kernel_rfl
/-- slices.IndexFunc[[]int,int] -/
def s241 : Sig := ⟨[((.sl 3 (.int .i64)), .val), ((.fn 233 (.pair (.ptr 203 (.fn 204 .unit)) .unit)), .val)], [((.int .i64), .val)]⟩
 def h241 : Hint := (.seq .leaf
   (.seq (.seq .leaf
   (.block ⟨[], []⟩ true
     (.loop ⟨[], [((8, 0), (.val (.int .i64))), ((0, 0), (.val (.sl 3 (.int .i64)))), ((1, 0), (.val (.fn 233 (.pair (.ptr 203 (.fn 204 .unit)) .unit)))), ((7, 0), (.val (.int .i64)))]⟩
       (.seq .leaf
       (.seq (.cond none
         .leaf
         .leaf)
       (.seq (.block ⟨[], [((0, 0), (.val (.sl 3 (.int .i64)))), ((1, 0), (.val (.fn 233 (.pair (.ptr 203 (.fn 204 .unit)) .unit)))), ((7, 0), (.val (.int .i64))), ((8, 0), (.val (.int .i64)))]⟩ true
         (.seq .leaf
         (.seq .leaf
         (.cond none
           (.seq .leaf
           .leaf)
           .leaf))))
       .leaf))))))
   (.seq .leaf
   .leaf)))
def d241_K1 (x3 : ((Unit × (Int × ((List Int) × ((Unit × Unit) × (Int × Unit))))) → (Option ((Int × Unit) × Unit)))) : ((Unit × ((List Int) × ((Unit × Unit) × I2))) → (Option ((Int × Unit) × Unit))) :=
  (fun (x6 : (Unit × ((List Int) × ((Unit × Unit) × I2)))) => (x3 ((), ((Go.IntKind.wrap Go.IntKind.i64 (x6.2.2.2.2.1 + (1 : Int))), (x6.2.1, (x6.2.2.1, (x6.2.2.2.1, ())))))))
def d241_L2 (x0 : Nat) (x2 : ((Unit × Unit) → (Option ((Int × Unit) × Unit)))) : (((Unit × (Int × ((List Int) × ((Unit × Unit) × (Int × Unit))))) → (Option ((Int × Unit) × Unit))) → ((Unit × (Int × ((List Int) × ((Unit × Unit) × (Int × Unit))))) → (Option ((Int × Unit) × Unit)))) :=
  (fun (x3 : ((Unit × (Int × ((List Int) × ((Unit × Unit) × (Int × Unit))))) → (Option ((Int × Unit) × Unit)))) => (fun (x4 : (Unit × (Int × ((List Int) × ((Unit × Unit) × (Int × Unit)))))) => (lt (Decidable.decide (x4.2.1 < x4.2.2.2.2.1)) fun (x5 : Bool) =>
  (if (x5 = Bool.true) then
  (shr (d241_K1 x3) (fun (x6 : ((Unit × ((List Int) × ((Unit × Unit) × I2))) → (Option ((Int × Unit) × Unit)))) => (if (((Decidable.decide ((0 : Int) ≤ x4.2.1)) && (Decidable.decide (x4.2.1 < (((List.length x4.2.2.1) : Nat) : Int)))) = Bool.true) then
  (lt (List.getD x4.2.2.1 (Int.toNat x4.2.1) (0 : Int)) fun (x7 : Int) =>
  (Option.bind (d233 x0 (x7, (x4.2.2.2.1.1, ()))) fun (x8 : ((Bool × Unit) × Unit)) =>
  (if (x8.1.1 = Bool.true) then
  (Option.some ((x4.2.1, ()), ()))
  else (x6 ((), (x4.2.2.1, (x4.2.2.2.1, (x4.2.2.2.2.1, (x4.2.1, ())))))))))
  else (Option.none))))
  else (x2 ((), ()))))))
def d241 : (Nat → (((List Int) × ((Unit × Unit) × Unit)) → (Option ((Int × Unit) × Unit)))) :=
  (fun (x0 : Nat) => (fun (x1 : ((List Int) × ((Unit × Unit) × Unit))) => (shr (fun (x2 : (Unit × Unit)) => (Option.some (((Neg.neg (1 : Int)), ()), ()))) (fun (x2 : ((Unit × Unit) → (Option ((Int × Unit) × Unit)))) => (loopN (d241_L2 x0 x2) x0 ((), ((0 : Int), (x1.1, (x1.2.1, ((((List.length x1.1) : Nat) : Int), ()))))))))))
theorem k241 : c_fn Tryz.prog ⟨[(204, ⟨s204, d204⟩), (233, ⟨s233, d233⟩)], ks0⟩ Tryz.f241 s241 h241 = some d241 := by kernel_rfl
/-- slices.ContainsFunc[[]int,int] -/
def s232 : Sig := ⟨[((.sl 3 (.int .i64)), .val), ((.fn 233 (.pair (.ptr 203 (.fn 204 .unit)) .unit)), .val)], [(.bool, .val)]⟩
 def h232 : Hint := (.seq .leaf
   (.seq .leaf
   .leaf))
def d232 : (Nat → (((List Int) × ((Unit × Unit) × Unit)) → (Option ((Bool × Unit) × Unit)))) :=
  (fun (x0 : Nat) => (fun (x1 : ((List Int) × ((Unit × Unit) × Unit))) => (Option.bind (d241 x0 (x1.1, (x1.2.1, ()))) fun (x2 : ((Int × Unit) × Unit)) =>
  (Option.some (((Decidable.decide (x2.1.1 ≥ (0 : Int))), ()), ())))))
theorem k232 : c_fn Tryz.prog ⟨[(241, ⟨s241, d241⟩), (204, ⟨s204, d204⟩), (233, ⟨s233, d233⟩)], ks0⟩ Tryz.f232 s232 h232 = some d232 := by kernel_rfl
/-- bulkhead/check.all[int] -/
def s203 : Sig := ⟨[((.sl 3 (.int .i64)), .val), ((.fn 204 .unit), .val)], [(.bool, .val)]⟩
 def h203 : Hint := (.seq .leaf
   (.seq (.pre ⟨[], [((3, 0), (.val (.ptr 203 (.fn 204 .unit)))), ((0, 0), (.val (.sl 3 (.int .i64))))]⟩ .leaf)
   .leaf))
def d203 : (Nat → (((List Int) × (Unit × Unit)) → (Option ((Bool × Unit) × Unit)))) :=
  (fun (x0 : Nat) => (fun (x1 : ((List Int) × (Unit × Unit))) => (Option.bind (d232 x0 (x1.1, ((x1.2.1, ()), ()))) fun (x2 : ((Bool × Unit) × Unit)) =>
  (Option.some (((Bool.not x2.1.1), ()), ())))))
theorem k203 : c_fn Tryz.prog ⟨[(233, ⟨s233, d233⟩), (232, ⟨s232, d232⟩), (204, ⟨s204, d204⟩)], ks0⟩ Tryz.f203 s203 h203 = some d203 := by kernel_rfl
/-- bulkhead/check.parts$6 -/
def s202 : Sig := ⟨[(kPT, .val)], [(.bool, .val)]⟩
 def h202 : Hint := (.seq .leaf
   (.seq (.pre ⟨[], [((1, 0), (.val (.ptr 64 kPT)))]⟩ .leaf)
   .leaf))
def d202 : (Nat → ((PT × Unit) → (Option ((Bool × Unit) × Unit)))) :=
  (fun (x0 : Nat) => (fun (x1 : (PT × Unit)) => (if (((Decidable.decide ((0 : Int) ≤ (0 : Int))) && (Decidable.decide ((0 : Int) < (((8 : Nat) : Nat) : Int)))) = Bool.true) then
  (lt (List.getD x1.1.2.2.2.2.2.2.2.1 (Int.toNat (0 : Int)) (0 : Int)) fun (x2 : Int) =>
  (lt (x2 == (0 : Int)) fun (x3 : Bool) =>
  (Option.bind (if (((x3 == Bool.true) && Bool.true) = Bool.true) then
  (d203 x0 (x1.1.2.2.2.2.2.2.2.1, ((), ())))
  else (Option.some ((Bool.false, ()), ()))) fun (x4 : ((Bool × Unit) × Unit)) =>
  (Option.some (((if (x3 = Bool.true) then
  x4.1.1
  else Bool.false), ()), ())))))
  else (Option.none))))
theorem k202 : c_fn Tryz.prog ⟨[(203, ⟨s203, d203⟩), (204, ⟨s204, d204⟩)], ks0⟩ Tryz.f202 s202 h202 = some d202 := by kernel_rfl
/-- bulkhead/check.handler -/
def s205 : Sig := ⟨[(kPT, .val)], [(.bool, .val)]⟩
 def h205 : Hint := (.seq .leaf
   (.seq (.seq .leaf
   (.cond none
     (.seq .leaf
     .leaf)
     .leaf))
   (.seq (.seq .leaf
   (.cond none
     (.seq .leaf
     .leaf)
     .leaf))
   (.seq .leaf
   (.seq .leaf
   .leaf)))))
def d205 : (Nat → ((PT × Unit) → (Option ((Bool × Unit) × Unit)))) :=
  (fun (x0 : Nat) => (fun (x1 : (PT × Unit)) => (lt (x1.1.2.2.2.2.2.2.1 == (0 : Int)) fun (x2 : Bool) =>
  (if (x2 = Bool.true) then
  (Option.some ((Bool.true, ()), ()))
  else (lt (((List.length x1.1.2.2.2.2.2.1) : Nat) : Int) fun (x3 : Int) =>
  (Option.bind (d173 x0 (x1.1.2.2.2.2.2.2.1, ((1 : Int), (x3, ())))) fun (x4 : ((Bool × Unit) × Unit)) =>
  (lt (Bool.not x4.1.1) fun (x5 : Bool) =>
  (if (x5 = Bool.true) then
  (Option.some ((Bool.false, ()), ()))
  else (lt (Go.IntKind.wrap Go.IntKind.i64 (x1.1.2.2.2.2.2.2.1 - (1 : Int))) fun (x6 : Int) =>
  (if (((Decidable.decide ((0 : Int) ≤ x6)) && (Decidable.decide (x6 < (((List.length x1.1.2.2.2.2.2.1) : Nat) : Int)))) = Bool.true) then
  (lt (List.getD x1.1.2.2.2.2.2.1 (Int.toNat x6) ((0 : Int), ((0 : Int), ((0 : Int), ((0 : Int), ((0 : Int), (Bool.false, ()))))))) fun (x7 : PC) =>
  (lt (x7.2.2.1 == (0 : Int)) fun (x8 : Bool) =>
  (lt (x7.2.2.2.1 == (0 : Int)) fun (x9 : Bool) =>
  (lt (if (x8 = Bool.true) then
  x9
  else Bool.false) fun (x10 : Bool) =>
  (lt (Bool.not x7.2.2.2.2.2.1) fun (x11 : Bool) =>
  (Option.some (((if (x10 = Bool.true) then
  x11
  else Bool.false), ()), ())))))))
  else (Option.none)))))))))))
theorem k205 : c_fn Tryz.prog ⟨[(173, ⟨s173, d173⟩)], ks0⟩ Tryz.f205 s205 h205 = some d205 := by kernel_rfl
/-- bulkhead/check.hold[bulkhead/api.Part] -/
def s153 : Sig := ⟨[((.sl 268 (.pair (.int .i64) (.pair .fnv .unit))), .val), (kPT, .val), ((.int .i64), .val)], [((.ifc 205 (.ptr 207 kI2)), (.own (.ow (.ow .sh))))]⟩
 def h153 : Hint := (.seq .leaf
   (.seq (.seq .leaf
   (.block ⟨[], []⟩ true
     (.loop ⟨[((.ptr 64 kPT), (.ow .sh), (4, 0))], [((2, 0), (.val (.int .i64))), ((11, 0), (.val (.int .i64))), ((4, 0), (.own 0)), ((9, 0), (.val (.sl 268 (.pair (.int .i64) (.pair .fnv .unit))))), ((10, 0), (.val (.int .i64)))]⟩
       (.seq .leaf
       (.seq (.cond none
         .leaf
         .leaf)
       (.seq (.block ⟨[((.ptr 64 kPT), (.ow .sh), (4, 0))], [((2, 0), (.val (.int .i64))), ((4, 0), (.own 0)), ((9, 0), (.val (.sl 268 (.pair (.int .i64) (.pair .fnv .unit))))), ((10, 0), (.val (.int .i64))), ((11, 0), (.val (.int .i64)))]⟩ true
         (.seq .leaf
         (.seq .leaf
         (.cond none
           (.seq .leaf
           .leaf)
           .leaf))))
       .leaf))))))
   (.seq .leaf
   .leaf)))
def d153_K1  : ((Unit × Unit) → (Option (((Option I2) × Unit) × Unit))) :=
  (fun (x2 : (Unit × Unit)) => (Option.some (((Option.none), ()), ())))
def d153_K2 (x3 : (((PT × Unit) × (Int × (Int × ((List (Int × ((Option Nat) × Unit))) × (Int × Unit))))) → (Option (((Option I2) × Unit) × Unit)))) : (((PT × Unit) × (Int × ((List (Int × ((Option Nat) × Unit))) × I2))) → (Option (((Option I2) × Unit) × Unit))) :=
  (fun (x6 : ((PT × Unit) × (Int × ((List (Int × ((Option Nat) × Unit))) × I2)))) => (x3 ((x6.1.1, ()), (x6.2.1, ((Go.IntKind.wrap Go.IntKind.i64 (x6.2.2.2.2.1 + (1 : Int))), (x6.2.2.1, (x6.2.2.2.1, ())))))))
def d153_L3 (x0 : Nat) (x2 : ((Unit × Unit) → (Option (((Option I2) × Unit) × Unit)))) : ((((PT × Unit) × (Int × (Int × ((List (Int × ((Option Nat) × Unit))) × (Int × Unit))))) → (Option (((Option I2) × Unit) × Unit))) → (((PT × Unit) × (Int × (Int × ((List (Int × ((Option Nat) × Unit))) × (Int × Unit))))) → (Option (((Option I2) × Unit) × Unit)))) :=
  (fun (x3 : (((PT × Unit) × (Int × (Int × ((List (Int × ((Option Nat) × Unit))) × (Int × Unit))))) → (Option (((Option I2) × Unit) × Unit)))) => (fun (x4 : ((PT × Unit) × (Int × (Int × ((List (Int × ((Option Nat) × Unit))) × (Int × Unit)))))) => (lt (Decidable.decide (x4.2.2.1 < x4.2.2.2.2.1)) fun (x5 : Bool) =>
  (if (x5 = Bool.true) then
  (shr (d153_K2 x3) (fun (x6 : (((PT × Unit) × (Int × ((List (Int × ((Option Nat) × Unit))) × I2))) → (Option (((Option I2) × Unit) × Unit)))) => (if (((Decidable.decide ((0 : Int) ≤ x4.2.2.1)) && (Decidable.decide (x4.2.2.1 < (((List.length x4.2.2.2.1) : Nat) : Int)))) = Bool.true) then
  (lt (List.getD x4.2.2.2.1 (Int.toNat x4.2.2.1) ((0 : Int), ((Option.none), ()))) fun (x7 : (Int × ((Option Nat) × Unit))) =>
  (Option.bind (Option.bind x7.2.1 fun (x8 : Nat) =>
  (if ((187 : Nat) = x8) then
  (d187 x0 (x4.1.1, ()))
  else (if ((188 : Nat) = x8) then
  (d188 x0 (x4.1.1, ()))
  else (if ((189 : Nat) = x8) then
  (d189 x0 (x4.1.1, ()))
  else (if ((190 : Nat) = x8) then
  (d190 x0 (x4.1.1, ()))
  else (if ((191 : Nat) = x8) then
  (d191 x0 (x4.1.1, ()))
  else (if ((192 : Nat) = x8) then
  (d192 x0 (x4.1.1, ()))
  else (if ((196 : Nat) = x8) then
  (d196 x0 (x4.1.1, ()))
  else (if ((199 : Nat) = x8) then
  (d199 x0 (x4.1.1, ()))
  else (if ((202 : Nat) = x8) then
  (d202 x0 (x4.1.1, ()))
  else (if ((205 : Nat) = x8) then
  (d205 x0 (x4.1.1, ()))
  else (Option.none)))))))))))) fun (x8 : ((Bool × Unit) × Unit)) =>
  (lt (Bool.not x8.1.1) fun (x9 : Bool) =>
  (if (x9 = Bool.true) then
  (Option.some (((Option.some (x7.1, (x4.2.1, ()))), ()), ()))
  else (x6 ((x4.1.1, ()), (x4.2.1, (x4.2.2.2.1, (x4.2.2.2.2.1, (x4.2.2.1, ()))))))))))
  else (Option.none))))
  else (x2 ((), ()))))))
def d153 : (Nat → (((List (Int × ((Option Nat) × Unit))) × (PT × (Int × Unit))) → (Option (((Option I2) × Unit) × Unit)))) :=
  (fun (x0 : Nat) => (fun (x1 : ((List (Int × ((Option Nat) × Unit))) × (PT × (Int × Unit)))) => (shr d153_K1 (fun (x2 : ((Unit × Unit) → (Option (((Option I2) × Unit) × Unit)))) => (loopN (d153_L3 x0 x2) x0 ((x1.2.1, ()), (x1.2.2.1, ((0 : Int), (x1.1, ((((List.length x1.1) : Nat) : Int), ()))))))))))
theorem k153 : c_fn Tryz.prog ⟨[(187, ⟨s187, d187⟩), (188, ⟨s188, d188⟩), (189, ⟨s189, d189⟩), (190, ⟨s190, d190⟩), (191, ⟨s191, d191⟩), (192, ⟨s192, d192⟩), (196, ⟨s196, d196⟩), (199, ⟨s199, d199⟩), (202, ⟨s202, d202⟩), (205, ⟨s205, d205⟩)], ks0⟩ Tryz.f153 s153 h153 = some d153 := by kernel_rfl
/-- bulkhead/check.servers -/
def s146 : Sig := ⟨[((.sl 55 kSV), .val)], [((.ifc 205 (.ptr 207 kI2)), (.own (.ow (.ow .sh))))]⟩
 def h146 : Hint := (.seq .leaf
   (.seq (.seq .leaf
   (.cond none
     (.seq .leaf
     .leaf)
     .leaf))
   (.seq .leaf
   (.seq (.seq .leaf
   (.block ⟨[], []⟩ true
     (.loop ⟨[((.ptr 249 (.arr 256 .bool)), (.ow .sh), (3, 0))], [((14, 0), (.val (.int .i64))), ((3, 0), (.own 0)), ((12, 0), (.val (.sl 55 kSV))), ((13, 0), (.val (.int .i64)))]⟩
       (.seq .leaf
       (.seq (.cond none
         .leaf
         .leaf)
       (.seq (.block ⟨[((.ptr 249 (.arr 256 .bool)), (.ow .sh), (3, 0))], [((3, 0), (.own 0)), ((12, 0), (.val (.sl 55 kSV))), ((13, 0), (.val (.int .i64))), ((14, 0), (.val (.int .i64)))]⟩ true
         (.seq .leaf
         (.seq (.seq .leaf
         (.cond none
           (.seq .leaf
           .leaf)
           .leaf))
         .leaf)))
       .leaf))))))
   (.seq .leaf
   .leaf)))))
def d146_K1  : ((Unit × Unit) → (Option (((Option I2) × Unit) × Unit))) :=
  (fun (x4 : (Unit × Unit)) => (Option.some (((Option.none), ()), ())))
def d146_K2 (x5 : ((((List Bool) × Unit) × (Int × ((List SV) × (Int × Unit)))) → (Option (((Option I2) × Unit) × Unit)))) : ((((List Bool) × Unit) × ((List SV) × I2)) → (Option (((Option I2) × Unit) × Unit))) :=
  (fun (x8 : (((List Bool) × Unit) × ((List SV) × I2))) => (x5 ((x8.1.1, ()), ((Go.IntKind.wrap Go.IntKind.i64 (x8.2.2.2.1 + (1 : Int))), (x8.2.1, (x8.2.2.1, ()))))))
def d146_L3 (x0 : Nat) (x4 : ((Unit × Unit) → (Option (((Option I2) × Unit) × Unit)))) : (((((List Bool) × Unit) × (Int × ((List SV) × (Int × Unit)))) → (Option (((Option I2) × Unit) × Unit))) → ((((List Bool) × Unit) × (Int × ((List SV) × (Int × Unit)))) → (Option (((Option I2) × Unit) × Unit)))) :=
  (fun (x5 : ((((List Bool) × Unit) × (Int × ((List SV) × (Int × Unit)))) → (Option (((Option I2) × Unit) × Unit)))) => (fun (x6 : (((List Bool) × Unit) × (Int × ((List SV) × (Int × Unit))))) => (lt (Decidable.decide (x6.2.1 < x6.2.2.2.1)) fun (x7 : Bool) =>
  (if (x7 = Bool.true) then
  (shr (d146_K2 x5) (fun (x8 : ((((List Bool) × Unit) × ((List SV) × I2)) → (Option (((Option I2) × Unit) × Unit)))) => (if (((Decidable.decide ((0 : Int) ≤ x6.2.1)) && (Decidable.decide (x6.2.1 < (((List.length x6.2.2.1) : Nat) : Int)))) = Bool.true) then
  (lt (List.getD x6.2.2.1 (Int.toNat x6.2.1) ((0 : Int), ((0 : Int), ((0 : Int), ((0 : Int), ()))))) fun (x9 : SV) =>
  (Option.bind (d173 x0 (x9.1, ((1 : Int), ((1048576 : Int), ())))) fun (x10 : ((Bool × Unit) × Unit)) =>
  (lt (Bool.not x10.1.1) fun (x11 : Bool) =>
  (Option.bind (if (((x11 == Bool.false) && Bool.true) = Bool.true) then
  (d173 x0 (x9.2.1, ((1 : Int), (x9.1, ()))))
  else (Option.some ((Bool.false, ()), ()))) fun (x12 : ((Bool × Unit) × Unit)) =>
  (lt (Bool.not x12.1.1) fun (x13 : Bool) =>
  (lt (if (x11 = Bool.true) then
  Bool.true
  else x13) fun (x14 : Bool) =>
  (lt (Go.IntKind.wrap Go.IntKind.i64 (x9.1 - (1 : Int))) fun (x15 : Int) =>
  (Option.bind (if (((x14 == Bool.false) && Bool.true) = Bool.true) then
  (d173 x0 (x9.2.2.1, ((0 : Int), (x15, ()))))
  else (Option.some ((Bool.false, ()), ()))) fun (x16 : ((Bool × Unit) × Unit)) =>
  (lt (Bool.not x16.1.1) fun (x17 : Bool) =>
  (lt (if (x14 = Bool.true) then
  Bool.true
  else x17) fun (x18 : Bool) =>
  (Option.bind (if (((x18 == Bool.false) && Bool.true) = Bool.true) then
  (d173 x0 (x9.2.2.2.1, ((0 : Int), ((255 : Int), ()))))
  else (Option.some ((Bool.false, ()), ()))) fun (x19 : ((Bool × Unit) × Unit)) =>
  (lt (Bool.not x19.1.1) fun (x20 : Bool) =>
  (lt (if (x18 = Bool.true) then
  Bool.true
  else x20) fun (x21 : Bool) =>
  (if (((Bool.not ((x21 == Bool.false) && Bool.true)) || ((Decidable.decide ((0 : Int) ≤ x9.2.2.2.1)) && (Decidable.decide (x9.2.2.2.1 < (((256 : Nat) : Nat) : Int))))) = Bool.true) then
  (if (((Bool.not ((x21 == Bool.false) && Bool.true)) || ((Decidable.decide ((Int.toNat x9.2.2.2.1) < (List.length x6.1.1))) && Bool.true)) = Bool.true) then
  (lt (List.getD x6.1.1 (Int.toNat x9.2.2.2.1) Bool.false) fun (x22 : Bool) =>
  (lt (if (x21 = Bool.true) then
  Bool.true
  else x22) fun (x23 : Bool) =>
  (if (x23 = Bool.true) then
  (Option.some (((Option.some ((101 : Int), ((Go.IntKind.wrap Go.IntKind.i64 (x6.2.1 + (1 : Int))), ()))), ()), ()))
  else (if (((Decidable.decide ((0 : Int) ≤ x9.2.2.2.1)) && (Decidable.decide (x9.2.2.2.1 < (((256 : Nat) : Nat) : Int)))) = Bool.true) then
  (if (((Decidable.decide ((Int.toNat x9.2.2.2.1) < (List.length x6.1.1))) && Bool.true) = Bool.true) then
  (x8 (((List.set x6.1.1 (Int.toNat x9.2.2.2.1) Bool.true), ()), (x6.2.2.1, (x6.2.2.2.1, (x6.2.1, ())))))
  else (Option.none))
  else (Option.none)))))
  else (Option.none))
  else (Option.none)))))))))))))))
  else (Option.none))))
  else (x4 ((), ()))))))
def d146 : (Nat → (((List SV) × Unit) → (Option (((Option I2) × Unit) × Unit)))) :=
  (fun (x0 : Nat) => (fun (x1 : ((List SV) × Unit)) => (lt (((List.length x1.1) : Nat) : Int) fun (x2 : Int) =>
  (lt (Decidable.decide (x2 > (32 : Int))) fun (x3 : Bool) =>
  (if (x3 = Bool.true) then
  (Option.some (((Option.some ((100 : Int), ((0 : Int), ()))), ()), ()))
  else (shr d146_K1 (fun (x4 : ((Unit × Unit) → (Option (((Option I2) × Unit) × Unit)))) => (loopN (d146_L3 x0 x4) x0 (((List.replicate (256 : Nat) Bool.false), ()), ((0 : Int), (x1.1, ((((List.length x1.1) : Nat) : Int), ()))))))))))))
theorem k146 : c_fn Tryz.prog ⟨[(173, ⟨s173, d173⟩)], ks0⟩ Tryz.f146 s146 h146 = some d146 := by kernel_rfl
/-- bulkhead/num.Gcd[int] -/
def s142 : Sig := ⟨[((.int .i64), .val), ((.int .i64), .val)], [((.int .i64), .val)]⟩
 def h142 : Hint := (.seq .leaf
   (.seq (.block ⟨[], [((0, 0), (.val (.int .i64)))]⟩ true
     (.loop ⟨[], [((1, 0), (.val (.int .i64))), ((0, 0), (.val (.int .i64)))]⟩
       (.seq (.seq .leaf
       (.cond none
         .leaf
         .leaf))
       (.block ⟨[], [((1, 0), (.val (.int .i64))), ((0, 0), (.val (.int .i64)))]⟩ true
         (.seq (.seq .leaf
         (.cond none
           (.seq .leaf
           .leaf)
           .leaf))
         .leaf)))))
   (.seq (.seq .leaf
   (.cond (some ⟨[], [((0, 0), (.val (.int .i64)))]⟩)
     .leaf
     .leaf))
   (.seq .leaf
   .leaf))))
def d142_K1  : ((Unit × (Int × Unit)) → (Option ((Int × Unit) × Unit))) :=
  (fun (x4 : (Unit × (Int × Unit))) => (Option.some (((if ((0 : Int) > x4.2.1) then
  (0 : Int)
  else x4.2.1), ()), ())))
def d142_K2  : ((Unit × (Int × Unit)) → (Option ((Int × Unit) × Unit))) :=
  (fun (x2 : (Unit × (Int × Unit))) => (lt (Decidable.decide (x2.2.1 < (0 : Int))) fun (x3 : Bool) =>
  (shr d142_K1 (fun (x4 : ((Unit × (Int × Unit)) → (Option ((Int × Unit) × Unit)))) => (if (x3 = Bool.true) then
  (x4 ((), ((Go.IntKind.wrap Go.IntKind.i64 ((0 : Int) - x2.2.1)), ())))
  else (x4 ((), (x2.2.1, ()))))))))
def d142_K3 (x3 : ((Unit × I2) → (Option ((Int × Unit) × Unit)))) : ((Unit × I2) → (Option ((Int × Unit) × Unit))) :=
  (fun (x6 : (Unit × I2)) => (x3 ((), (x6.2.1, (x6.2.2.1, ())))))
def d142_L4 (x2 : ((Unit × (Int × Unit)) → (Option ((Int × Unit) × Unit)))) : (((Unit × I2) → (Option ((Int × Unit) × Unit))) → ((Unit × I2) → (Option ((Int × Unit) × Unit)))) :=
  (fun (x3 : ((Unit × I2) → (Option ((Int × Unit) × Unit)))) => (fun (x4 : (Unit × I2)) => (lt (x4.2.1 != (0 : Int)) fun (x5 : Bool) =>
  (if (x5 = Bool.true) then
  (shr (d142_K3 x3) (fun (x6 : ((Unit × I2) → (Option ((Int × Unit) × Unit)))) => (lt (x4.2.1 == (Neg.neg (1 : Int))) fun (x7 : Bool) =>
  (if (x7 = Bool.true) then
  (Option.some (((1 : Int), ()), ()))
  else (if ((Bool.not (x4.2.1 == (0 : Int))) = Bool.true) then
  (x6 ((), ((Int.tmod x4.2.2.1 x4.2.1), (x4.2.1, ()))))
  else (Option.none))))))
  else (x2 ((), (x4.2.2.1, ())))))))
def d142 : (Nat → (I2 → (Option ((Int × Unit) × Unit)))) :=
  (fun (x0 : Nat) => (fun (x1 : I2) => (shr d142_K2 (fun (x2 : ((Unit × (Int × Unit)) → (Option ((Int × Unit) × Unit)))) => (loopN (d142_L4 x2) x0 ((), (x1.2.1, (x1.1, ()))))))))
theorem k142 : c_fn Tryz.prog ⟨[], ks0⟩ Tryz.f142 s142 h142 = some d142 := by kernel_rfl
/-- bulkhead/num.Lcm[int] -/
def s111 : Sig := ⟨[((.sl 3 (.int .i64)), .val), ((.int .i64), .val)], [((.int .i64), .val), (.bool, .val)]⟩
 def h111 : Hint := (.seq .leaf
   (.scope (.seq .leaf
   (.seq .leaf
   (.seq (.block ⟨[], []⟩ true
     (.loop ⟨[], [((6, 0), (.val (.int .i64))), ((1, 0), (.val (.int .i64))), ((0, 0), (.val (.sl 3 (.int .i64))))]⟩
       (.block ⟨[], []⟩ false
         (.seq (.seq .leaf
         (.block ⟨[], [((6, 0), (.val (.int .i64))), ((1, 0), (.val (.int .i64))), ((0, 0), (.val (.sl 3 (.int .i64))))]⟩ true
           (.loop ⟨[], [((14, 0), (.val (.int .i64))), ((12, 0), (.val (.sl 3 (.int .i64)))), ((6, 0), (.val (.int .i64))), ((1, 0), (.val (.int .i64))), ((0, 0), (.val (.sl 3 (.int .i64)))), ((13, 0), (.val (.int .i64)))]⟩
             (.seq .leaf
             (.seq (.cond none
               .leaf
               .leaf)
             (.seq (.block ⟨[], [((12, 0), (.val (.sl 3 (.int .i64)))), ((6, 0), (.val (.int .i64))), ((1, 0), (.val (.int .i64))), ((0, 0), (.val (.sl 3 (.int .i64)))), ((13, 0), (.val (.int .i64))), ((14, 0), (.val (.int .i64)))]⟩ true
               (.seq .leaf
               (.seq .leaf
               (.cond none
                 .leaf
                 .leaf))))
             .leaf))))))
         (.seq (.seq .leaf
         (.block ⟨[], [((6, 0), (.val (.int .i64))), ((1, 0), (.val (.int .i64)))]⟩ true
           (.loop ⟨[], [((23, 0), (.val (.int .i64))), ((6, 0), (.val (.int .i64))), ((1, 0), (.val (.int .i64))), ((21, 0), (.val (.sl 3 (.int .i64)))), ((22, 0), (.val (.int .i64)))]⟩
             (.seq .leaf
             (.seq (.cond none
               .leaf
               .leaf)
             (.seq (.block ⟨[], [((6, 0), (.val (.int .i64))), ((1, 0), (.val (.int .i64))), ((21, 0), (.val (.sl 3 (.int .i64)))), ((22, 0), (.val (.int .i64))), ((23, 0), (.val (.int .i64)))]⟩ true
               (.seq .leaf
               (.seq .leaf
               (.seq (.seq .leaf
               (.cond none
                 .leaf
                 .leaf))
               .leaf))))
             .leaf))))))
         (.seq (.seq .leaf
         (.cond none
           .leaf
           .leaf))
         (.seq .leaf
         .leaf)))))))
   (.seq .leaf
   .leaf))))))
def d111_K1  : ((Unit × Unit) → (Option ((Int × (Bool × Unit)) × Unit))) :=
  (fun (x2 : (Unit × Unit)) => (Option.some (((0 : Int), (Bool.false, ())), ())))
def d111_K2 (x2 : ((Unit × Unit) → (Option ((Int × (Bool × Unit)) × Unit)))) : ((Unit × I2) → (Option ((Int × (Bool × Unit)) × Unit))) :=
  (fun (x7 : (Unit × I2)) => (lt (Decidable.decide (x7.2.1 > x7.2.2.1)) fun (x8 : Bool) =>
  (if (x8 = Bool.true) then
  (x2 ((), ()))
  else (Option.some ((x7.2.1, (Bool.true, ())), ())))))
def d111_K3 (x8 : ((Unit × (Int × (Int × (Int × ((List Int) × (Int × Unit)))))) → (Option ((Int × (Bool × Unit)) × Unit)))) : ((Unit × CH) → (Option ((Int × (Bool × Unit)) × Unit))) :=
  (fun (x11 : (Unit × CH)) => (x8 ((), ((Go.IntKind.wrap Go.IntKind.i64 (x11.2.2.2.2.2.1 + (1 : Int))), (x11.2.1, (x11.2.2.1, (x11.2.2.2.1, (x11.2.2.2.2.1, ()))))))))
def d111_L4 (x0 : Nat) (x2 : ((Unit × Unit) → (Option ((Int × (Bool × Unit)) × Unit)))) (x7 : ((Unit × I2) → (Option ((Int × (Bool × Unit)) × Unit)))) : (((Unit × (Int × (Int × (Int × ((List Int) × (Int × Unit)))))) → (Option ((Int × (Bool × Unit)) × Unit))) → ((Unit × (Int × (Int × (Int × ((List Int) × (Int × Unit)))))) → (Option ((Int × (Bool × Unit)) × Unit)))) :=
  (fun (x8 : ((Unit × (Int × (Int × (Int × ((List Int) × (Int × Unit)))))) → (Option ((Int × (Bool × Unit)) × Unit)))) => (fun (x9 : (Unit × (Int × (Int × (Int × ((List Int) × (Int × Unit))))))) => (lt (Decidable.decide (x9.2.1 < x9.2.2.2.2.2.1)) fun (x10 : Bool) =>
  (if (x10 = Bool.true) then
  (shr (d111_K3 x8) (fun (x11 : ((Unit × CH) → (Option ((Int × (Bool × Unit)) × Unit)))) => (if (((Decidable.decide ((0 : Int) ≤ x9.2.1)) && (Decidable.decide (x9.2.1 < (((List.length x9.2.2.2.2.1) : Nat) : Int)))) = Bool.true) then
  (lt (List.getD x9.2.2.2.2.1 (Int.toNat x9.2.1) (0 : Int)) fun (x12 : Int) =>
  (Option.bind (d142 x0 (x9.2.2.1, (x12, ()))) fun (x13 : ((Int × Unit) × Unit)) =>
  (if ((Bool.not (x13.1.1 == (0 : Int))) = Bool.true) then
  (lt (Go.IntKind.wrap Go.IntKind.i64 (Int.tdiv x12 x13.1.1)) fun (x14 : Int) =>
  (if ((Bool.not (x9.2.2.1 == (0 : Int))) = Bool.true) then
  (lt (Go.IntKind.wrap Go.IntKind.i64 (Int.tdiv x9.2.2.2.1 x9.2.2.1)) fun (x15 : Int) =>
  (lt (Decidable.decide (x14 > x15)) fun (x16 : Bool) =>
  (if (x16 = Bool.true) then
  (x2 ((), ()))
  else (x11 ((), ((Go.IntKind.wrap Go.IntKind.i64 (x9.2.2.1 * x14)), (x9.2.2.2.1, (x9.2.2.2.2.1, (x9.2.2.2.2.2.1, (x9.2.1, ()))))))))))
  else (Option.none)))
  else (Option.none))))
  else (Option.none))))
  else (x7 ((), (x9.2.2.1, (x9.2.2.2.1, ()))))))))
def d111_K5 (x0 : Nat) (x2 : ((Unit × Unit) → (Option ((Int × (Bool × Unit)) × Unit)))) : ((Unit × (Int × (Int × ((List Int) × Unit)))) → (Option ((Int × (Bool × Unit)) × Unit))) :=
  (fun (x6 : (Unit × (Int × (Int × ((List Int) × Unit))))) => (shr (d111_K2 x2) (fun (x7 : ((Unit × I2) → (Option ((Int × (Bool × Unit)) × Unit)))) => (loopN (d111_L4 x0 x2 x7) x0 ((), ((0 : Int), (x6.2.1, (x6.2.2.1, (x6.2.2.2.1, ((((List.length x6.2.2.2.1) : Nat) : Int), ()))))))))))
def d111_K6 (x7 : ((Unit × (Int × ((List Int) × (Int × (Int × ((List Int) × (Int × Unit))))))) → (Option ((Int × (Bool × Unit)) × Unit)))) : ((Unit × ((List Int) × CH)) → (Option ((Int × (Bool × Unit)) × Unit))) :=
  (fun (x10 : (Unit × ((List Int) × CH))) => (x7 ((), ((Go.IntKind.wrap Go.IntKind.i64 (x10.2.2.2.2.2.2.1 + (1 : Int))), (x10.2.1, (x10.2.2.1, (x10.2.2.2.1, (x10.2.2.2.2.1, (x10.2.2.2.2.2.1, ())))))))))
def d111_L7 (x2 : ((Unit × Unit) → (Option ((Int × (Bool × Unit)) × Unit)))) (x6 : ((Unit × (Int × (Int × ((List Int) × Unit)))) → (Option ((Int × (Bool × Unit)) × Unit)))) : (((Unit × (Int × ((List Int) × (Int × (Int × ((List Int) × (Int × Unit))))))) → (Option ((Int × (Bool × Unit)) × Unit))) → ((Unit × (Int × ((List Int) × (Int × (Int × ((List Int) × (Int × Unit))))))) → (Option ((Int × (Bool × Unit)) × Unit)))) :=
  (fun (x7 : ((Unit × (Int × ((List Int) × (Int × (Int × ((List Int) × (Int × Unit))))))) → (Option ((Int × (Bool × Unit)) × Unit)))) => (fun (x8 : (Unit × (Int × ((List Int) × (Int × (Int × ((List Int) × (Int × Unit)))))))) => (lt (Decidable.decide (x8.2.1 < x8.2.2.2.2.2.2.1)) fun (x9 : Bool) =>
  (if (x9 = Bool.true) then
  (shr (d111_K6 x7) (fun (x10 : ((Unit × ((List Int) × CH)) → (Option ((Int × (Bool × Unit)) × Unit)))) => (if (((Decidable.decide ((0 : Int) ≤ x8.2.1)) && (Decidable.decide (x8.2.1 < (((List.length x8.2.2.1) : Nat) : Int)))) = Bool.true) then
  (lt (List.getD x8.2.2.1 (Int.toNat x8.2.1) (0 : Int)) fun (x11 : Int) =>
  (lt (Decidable.decide (x11 < (1 : Int))) fun (x12 : Bool) =>
  (if (x12 = Bool.true) then
  (x2 ((), ()))
  else (x10 ((), (x8.2.2.1, (x8.2.2.2.1, (x8.2.2.2.2.1, (x8.2.2.2.2.2.1, (x8.2.2.2.2.2.2.1, (x8.2.1, ())))))))))))
  else (Option.none))))
  else (x6 ((), (x8.2.2.2.1, (x8.2.2.2.2.1, (x8.2.2.2.2.2.1, ())))))))))
def d111_L8 (x0 : Nat) (x2 : ((Unit × Unit) → (Option ((Int × (Bool × Unit)) × Unit)))) : (((Unit × (Int × (Int × ((List Int) × Unit)))) → (Option ((Int × (Bool × Unit)) × Unit))) → ((Unit × (Int × (Int × ((List Int) × Unit)))) → (Option ((Int × (Bool × Unit)) × Unit)))) :=
  (fun (x3 : ((Unit × (Int × (Int × ((List Int) × Unit)))) → (Option ((Int × (Bool × Unit)) × Unit)))) => (fun (x4 : (Unit × (Int × (Int × ((List Int) × Unit))))) => (shr (fun (x5 : (Unit × Unit)) => (Option.none)) (fun (x5 : ((Unit × Unit) → (Option ((Int × (Bool × Unit)) × Unit)))) => (shr (d111_K5 x0 x2) (fun (x6 : ((Unit × (Int × (Int × ((List Int) × Unit)))) → (Option ((Int × (Bool × Unit)) × Unit)))) => (loopN (d111_L7 x2 x6) x0 ((), ((0 : Int), (x4.2.2.2.1, (x4.2.1, (x4.2.2.1, (x4.2.2.2.1, ((((List.length x4.2.2.2.1) : Nat) : Int), ()))))))))))))))
def d111 : (Nat → (((List Int) × (Int × Unit)) → (Option ((Int × (Bool × Unit)) × Unit)))) :=
  (fun (x0 : Nat) => (fun (x1 : ((List Int) × (Int × Unit))) => (shr d111_K1 (fun (x2 : ((Unit × Unit) → (Option ((Int × (Bool × Unit)) × Unit)))) => (loopN (d111_L8 x0 x2) x0 ((), ((1 : Int), (x1.2.1, (x1.1, ())))))))))
theorem k111 : c_fn Tryz.prog ⟨[(142, ⟨s142, d142⟩)], ks0⟩ Tryz.f111 s111 h111 = some d111 := by kernel_rfl
/-- bulkhead/check.hyper -/
def s118 : Sig := ⟨[((.sl 55 kSV), .val)], [((.int .i64), .val), ((.ifc 205 (.ptr 207 kI2)), (.own (.ow (.ow .sh))))]⟩
 def h118 : Hint := (.seq .leaf
   (.seq (.seq .leaf
   (.seq .leaf
   (.cond none
     (.seq .leaf
     .leaf)
     .leaf)))
   (.seq .leaf
   (.seq (.seq .leaf
   (.block ⟨[((.sl 3 (.int .i64)), (.ow .sh), (5, 0))], [((5, 0), (.own 0))]⟩ true
     (.loop ⟨[((.sl 3 (.int .i64)), (.ow .sh), (5, 0))], [((23, 0), (.val (.int .i64))), ((5, 0), (.own 0)), ((21, 0), (.val (.sl 55 kSV))), ((22, 0), (.val (.int .i64)))]⟩
       (.seq .leaf
       (.seq (.cond none
         .leaf
         .leaf)
       (.seq (.block ⟨[((.sl 3 (.int .i64)), (.ow .sh), (5, 0))], [((5, 0), (.own 0)), ((21, 0), (.val (.sl 55 kSV))), ((22, 0), (.val (.int .i64))), ((23, 0), (.val (.int .i64)))]⟩ true
         (.seq .leaf
         .leaf))
       .leaf))))))
   (.seq .leaf
   (.seq (.seq .leaf
   (.cond none
     (.seq .leaf
     .leaf)
     .leaf))
   (.seq .leaf
   (.seq (.seq .leaf
   (.block ⟨[], [((8, 0), (.val (.int .i64))), ((10, 0), (.val (.int .i64)))]⟩ true
     (.loop ⟨[((.sl 3 (.int .i64)), (.ow .sh), (43, 0))], [((45, 0), (.val (.int .i64))), ((8, 0), (.val (.int .i64))), ((10, 0), (.val (.int .i64))), ((43, 0), (.own 0)), ((44, 0), (.val (.int .i64)))]⟩
       (.seq .leaf
       (.seq (.cond none
         .leaf
         .leaf)
       (.seq (.block ⟨[((.sl 3 (.int .i64)), (.ow .sh), (43, 0))], [((8, 0), (.val (.int .i64))), ((10, 0), (.val (.int .i64))), ((43, 0), (.own 0)), ((44, 0), (.val (.int .i64))), ((45, 0), (.val (.int .i64)))]⟩ true
         (.seq .leaf
         .leaf))
       .leaf))))))
   (.seq (.seq .leaf
   (.cond none
     (.seq .leaf
     .leaf)
     .leaf))
   (.seq .leaf
   .leaf))))))))))
def d118_K1  : ((Unit × I2) → (Option ((Int × ((Option I2) × Unit)) × Unit))) :=
  (fun (x8 : (Unit × I2)) => (lt (Decidable.decide (x8.2.2.1 > (65536 : Int))) fun (x9 : Bool) =>
  (if (x9 = Bool.true) then
  (Option.some (((0 : Int), ((Option.some ((103 : Int), ((0 : Int), ()))), ())), ()))
  else (Option.some ((x8.2.1, ((Option.none), ())), ())))))
def d118_K2 (x9 : ((((List Int) × Unit) × SV) → (Option ((Int × ((Option I2) × Unit)) × Unit)))) : ((((List Int) × Unit) × SV) → (Option ((Int × ((Option I2) × Unit)) × Unit))) :=
  (fun (x12 : (((List Int) × Unit) × SV)) => (x9 ((x12.1.1, ()), ((Go.IntKind.wrap Go.IntKind.i64 (x12.2.2.2.2.1 + (1 : Int))), (x12.2.1, (x12.2.2.1, (x12.2.2.2.1, ())))))))
def d118_L3 (x8 : ((Unit × I2) → (Option ((Int × ((Option I2) × Unit)) × Unit)))) : (((((List Int) × Unit) × SV) → (Option ((Int × ((Option I2) × Unit)) × Unit))) → ((((List Int) × Unit) × SV) → (Option ((Int × ((Option I2) × Unit)) × Unit)))) :=
  (fun (x9 : ((((List Int) × Unit) × SV) → (Option ((Int × ((Option I2) × Unit)) × Unit)))) => (fun (x10 : (((List Int) × Unit) × SV)) => (lt (Decidable.decide (x10.2.1 < x10.2.2.2.2.1)) fun (x11 : Bool) =>
  (if (x11 = Bool.true) then
  (shr (d118_K2 x9) (fun (x12 : ((((List Int) × Unit) × SV) → (Option ((Int × ((Option I2) × Unit)) × Unit)))) => (if (((Decidable.decide ((0 : Int) ≤ x10.2.1)) && (Decidable.decide (x10.2.1 < (((List.length x10.1.1) : Nat) : Int)))) = Bool.true) then
  (if (((Decidable.decide ((Int.toNat x10.2.1) < (List.length x10.1.1))) && Bool.true) = Bool.true) then
  (lt (List.getD x10.1.1 (Int.toNat x10.2.1) (0 : Int)) fun (x13 : Int) =>
  (lt (Go.IntKind.wrap Go.IntKind.i64 ((2 : Int) * x10.2.2.1)) fun (x14 : Int) =>
  (if ((Bool.not (x13 == (0 : Int))) = Bool.true) then
  (x12 ((x10.1.1, ()), (x10.2.2.1, ((Go.IntKind.wrap Go.IntKind.i64 (x10.2.2.2.1 + (Go.IntKind.wrap Go.IntKind.i64 (Int.tdiv x14 x13)))), (x10.2.2.2.2.1, (x10.2.1, ()))))))
  else (Option.none))))
  else (Option.none))
  else (Option.none))))
  else (x8 ((), (x10.2.2.1, (x10.2.2.2.1, ()))))))))
def d118_K4 (x0 : Nat) : ((((List Int) × Unit) × Unit) → (Option ((Int × ((Option I2) × Unit)) × Unit))) :=
  (fun (x5 : (((List Int) × Unit) × Unit)) => (Option.bind (d111 x0 (x5.1.1, ((1048576 : Int), ()))) fun (x6 : ((Int × (Bool × Unit)) × Unit)) =>
  (lt (Bool.not x6.1.2.1) fun (x7 : Bool) =>
  (if (x7 = Bool.true) then
  (Option.some (((0 : Int), ((Option.some ((102 : Int), ((0 : Int), ()))), ())), ()))
  else (shr d118_K1 (fun (x8 : ((Unit × I2) → (Option ((Int × ((Option I2) × Unit)) × Unit)))) => (loopN (d118_L3 x8) x0 ((x5.1.1, ()), ((0 : Int), (x6.1.1, ((0 : Int), ((((List.length x5.1.1) : Nat) : Int), ()))))))))))))
def d118_K5 (x6 : ((((List Int) × Unit) × (Int × ((List SV) × (Int × Unit)))) → (Option ((Int × ((Option I2) × Unit)) × Unit)))) : ((((List Int) × Unit) × ((List SV) × I2)) → (Option ((Int × ((Option I2) × Unit)) × Unit))) :=
  (fun (x9 : (((List Int) × Unit) × ((List SV) × I2))) => (x6 ((x9.1.1, ()), ((Go.IntKind.wrap Go.IntKind.i64 (x9.2.2.2.1 + (1 : Int))), (x9.2.1, (x9.2.2.1, ()))))))
def d118_L6 (x5 : ((((List Int) × Unit) × Unit) → (Option ((Int × ((Option I2) × Unit)) × Unit)))) : (((((List Int) × Unit) × (Int × ((List SV) × (Int × Unit)))) → (Option ((Int × ((Option I2) × Unit)) × Unit))) → ((((List Int) × Unit) × (Int × ((List SV) × (Int × Unit)))) → (Option ((Int × ((Option I2) × Unit)) × Unit)))) :=
  (fun (x6 : ((((List Int) × Unit) × (Int × ((List SV) × (Int × Unit)))) → (Option ((Int × ((Option I2) × Unit)) × Unit)))) => (fun (x7 : (((List Int) × Unit) × (Int × ((List SV) × (Int × Unit))))) => (lt (Decidable.decide (x7.2.1 < x7.2.2.2.1)) fun (x8 : Bool) =>
  (if (x8 = Bool.true) then
  (shr (d118_K5 x6) (fun (x9 : ((((List Int) × Unit) × ((List SV) × I2)) → (Option ((Int × ((Option I2) × Unit)) × Unit)))) => (if (((Decidable.decide ((0 : Int) ≤ x7.2.1)) && (Decidable.decide (x7.2.1 < (((List.length x7.2.2.1) : Nat) : Int)))) = Bool.true) then
  (lt (List.getD x7.2.2.1 (Int.toNat x7.2.1) ((0 : Int), ((0 : Int), ((0 : Int), ((0 : Int), ()))))) fun (x10 : SV) =>
  (lt (x10.1 :: ([] : List Int)) fun (x11 : (List Int)) =>
  (if ((Go.Lift.appFits (List.length x7.1.1) (List.length x11) (8 : Nat)) = Bool.true) then
  (x9 (((x7.1.1 ++ x11), ()), (x7.2.2.1, (x7.2.2.2.1, (x7.2.1, ())))))
  else (Option.none))))
  else (Option.none))))
  else (x5 ((x7.1.1, ()), ()))))))
def d118 : (Nat → (((List SV) × Unit) → (Option ((Int × ((Option I2) × Unit)) × Unit)))) :=
  (fun (x0 : Nat) => (fun (x1 : ((List SV) × Unit)) => (Option.bind (d146 x0 (x1.1, ())) fun (x2 : (((Option I2) × Unit) × Unit)) =>
  (lt (Bool.not (Option.isNone x2.1.1)) fun (x3 : Bool) =>
  (if (x3 = Bool.true) then
  (Option.some (((0 : Int), (x2.1.1, ())), ()))
  else (lt (((List.length x1.1) : Nat) : Int) fun (x4 : Int) =>
  (if (((((Decidable.decide ((0 : Int) ≤ (0 : Int))) && (Decidable.decide ((0 : Int) ≤ x4))) && (Decidable.decide (((((8 : Nat) : Nat) : Int) * x4) ≤ (281474976710656 : Int)))) && (Decidable.decide (x4 ≤ (9223372036854775807 : Int)))) = Bool.true) then
  (shr (d118_K4 x0) (fun (x5 : ((((List Int) × Unit) × Unit) → (Option ((Int × ((Option I2) × Unit)) × Unit)))) => (loopN (d118_L6 x5) x0 (((List.replicate (Int.toNat (0 : Int)) (0 : Int)), ()), ((0 : Int), (x1.1, ((((List.length x1.1) : Nat) : Int), ())))))))
  else (Option.none))))))))
theorem k118 : c_fn Tryz.prog ⟨[(146, ⟨s146, d146⟩), (111, ⟨s111, d111⟩)], ks0⟩ Tryz.f118 s118 h118 = some d118 := by kernel_rfl
/-- bulkhead/check.parts -/
def s155 : Sig := ⟨[], [((.sl 268 (.pair (.int .i64) (.pair .fnv .unit))), (.own (.ow .sh)))]⟩
 def h155 : Hint := (.seq .leaf
   (.seq .leaf
   .leaf))
def d155 : (Nat → (Unit → (Option (((List (Int × ((Option Nat) × Unit))) × Unit) × Unit)))) :=
  (fun (x0 : Nat) => (fun (x1 : Unit) => (Option.some (((((110 : Int), ((Option.some 190), ())) :: (((104 : Int), ((Option.some 191), ())) :: (((105 : Int), ((Option.some 192), ())) :: (((106 : Int), ((Option.some 196), ())) :: (((106 : Int), ((Option.some 199), ())) :: (((109 : Int), ((Option.some 202), ())) :: (((109 : Int), ((Option.some 205), ())) :: ([] : List (Int × ((Option Nat) × Unit)))))))))), ()), ()))))
theorem k155 : c_fn Tryz.prog ⟨[(190, ⟨s190, d190⟩), (191, ⟨s191, d191⟩), (192, ⟨s192, d192⟩), (196, ⟨s196, d196⟩), (199, ⟨s199, d199⟩), (202, ⟨s202, d202⟩), (205, ⟨s205, d205⟩)], ks0⟩ Tryz.f155 s155 h155 = some d155 := by kernel_rfl
/-- bulkhead/check.port -/
def s156 : Sig := ⟨[((.pair (.int .i64) (.pair (.int .i64) (.pair .bool (.pair (.int .i64) kI2)))), .val), ((.int .i64), .val)], [(.bool, .val)]⟩
 def h156 : Hint := (.seq .leaf
   (.seq .leaf
   (.seq (.block ⟨[((.ptr 41 (.pair (.int .i64) (.pair (.int .i64) (.pair .bool (.pair (.int .i64) kI2))))), (.ow .sh), (2, 0))], [((2, 0), (.own 0)), ((1, 0), (.val (.int .i64))), ((6, 0), (.val .bool)), ((5, 0), (.val .bool))]⟩ true
     (.seq .leaf
     (.cond (some ⟨[((.ptr 41 (.pair (.int .i64) (.pair (.int .i64) (.pair .bool (.pair (.int .i64) kI2))))), (.ow .sh), (2, 0))], [((2, 0), (.own 0)), ((1, 0), (.val (.int .i64))), ((6, 0), (.val .bool)), ((5, 0), (.val .bool))]⟩)
       .leaf
       (.seq .leaf
       (.cond (some ⟨[((.ptr 41 (.pair (.int .i64) (.pair (.int .i64) (.pair .bool (.pair (.int .i64) kI2))))), (.ow .sh), (2, 0))], [((2, 0), (.own 0)), ((1, 0), (.val (.int .i64))), ((6, 0), (.val .bool)), ((5, 0), (.val .bool))]⟩)
         .leaf
         (.seq .leaf
         (.cond none
           (.seq .leaf
           .leaf)
           .leaf)))))))
   (.seq .leaf
   .leaf))))
def d156_K1 (x0 : Nat) : ((((Int × (Int × (Bool × (Int × I2)))) × Unit) × (Int × (Bool × (Bool × Unit)))) → (Option ((Bool × Unit) × Unit))) :=
  (fun (x4 : (((Int × (Int × (Bool × (Int × I2)))) × Unit) × (Int × (Bool × (Bool × Unit))))) => (lt (if (x4.2.2.2.1 = Bool.true) then
  x4.2.2.1
  else Bool.false) fun (x5 : Bool) =>
  (Option.bind (if (((x5 == Bool.true) && Bool.true) = Bool.true) then
  (d173 x0 (x4.1.1.1, ((1 : Int), (x4.2.1, ()))))
  else (Option.some ((Bool.false, ()), ()))) fun (x6 : ((Bool × Unit) × Unit)) =>
  (lt (if (x5 = Bool.true) then
  x6.1.1
  else Bool.false) fun (x7 : Bool) =>
  (Option.bind (if (((x7 == Bool.true) && Bool.true) = Bool.true) then
  (d173 x0 (x4.1.1.2.2.2.1, ((1 : Int), ((16 : Int), ()))))
  else (Option.some ((Bool.false, ()), ()))) fun (x8 : ((Bool × Unit) × Unit)) =>
  (Option.some (((if (x7 = Bool.true) then
  x8.1.1
  else Bool.false), ()), ())))))))
def d156_K2 (x4 : ((((Int × (Int × (Bool × (Int × I2)))) × Unit) × (Int × (Bool × (Bool × Unit)))) → (Option ((Bool × Unit) × Unit)))) : ((((Int × (Int × (Bool × (Int × I2)))) × Unit) × (Int × (Bool × (Bool × Unit)))) → (Option ((Bool × Unit) × Unit))) :=
  (fun (x6 : (((Int × (Int × (Bool × (Int × I2)))) × Unit) × (Int × (Bool × (Bool × Unit))))) => (x4 ((x6.1.1, ()), (x6.2.1, (x6.2.2.1, (x6.2.2.2.1, ()))))))
def d156_K3 (x6 : ((((Int × (Int × (Bool × (Int × I2)))) × Unit) × (Int × (Bool × (Bool × Unit)))) → (Option ((Bool × Unit) × Unit)))) : ((((Int × (Int × (Bool × (Int × I2)))) × Unit) × (Int × (Bool × (Bool × Unit)))) → (Option ((Bool × Unit) × Unit))) :=
  (fun (x10 : (((Int × (Int × (Bool × (Int × I2)))) × Unit) × (Int × (Bool × (Bool × Unit))))) => (x6 ((x10.1.1, ()), (x10.2.1, (x10.2.2.1, (x10.2.2.2.1, ()))))))
def d156 : (Nat → (((Int × (Int × (Bool × (Int × I2)))) × (Int × Unit)) → (Option ((Bool × Unit) × Unit)))) :=
  (fun (x0 : Nat) => (fun (x1 : ((Int × (Int × (Bool × (Int × I2)))) × (Int × Unit))) => (lt (x1.1.2.2.2.2.1 == (0 : Int)) fun (x2 : Bool) =>
  (lt (x1.1.2.2.2.2.2.1 == (0 : Int)) fun (x3 : Bool) =>
  (shr (d156_K1 x0) (fun (x4 : ((((Int × (Int × (Bool × (Int × I2)))) × Unit) × (Int × (Bool × (Bool × Unit)))) → (Option ((Bool × Unit) × Unit)))) => (lt (x1.1.2.1 == (1 : Int)) fun (x5 : Bool) =>
  (shr (d156_K2 x4) (fun (x6 : ((((Int × (Int × (Bool × (Int × I2)))) × Unit) × (Int × (Bool × (Bool × Unit)))) → (Option ((Bool × Unit) × Unit)))) => (if (x5 = Bool.true) then
  (Option.bind (d173 x0 (x1.1.2.2.2.2.1, ((1 : Int), ((64 : Int), ())))) fun (x7 : ((Bool × Unit) × Unit)) =>
  (x6 ((x1.1, ()), (x1.2.1, (x3, (x7.1.1, ()))))))
  else (lt (x1.1.2.1 == (0 : Int)) fun (x7 : Bool) =>
  (lt (Bool.not x1.1.2.2.1) fun (x8 : Bool) =>
  (lt (if (x7 = Bool.true) then
  x8
  else Bool.false) fun (x9 : Bool) =>
  (shr (d156_K3 x6) (fun (x10 : ((((Int × (Int × (Bool × (Int × I2)))) × Unit) × (Int × (Bool × (Bool × Unit)))) → (Option ((Bool × Unit) × Unit)))) => (if (x9 = Bool.true) then
  (Option.bind (d173 x0 (x1.1.2.2.2.2.2.1, ((0 : Int), ((1099511627775 : Int), ())))) fun (x11 : ((Bool × Unit) × Unit)) =>
  (x10 ((x1.1, ()), (x1.2.1, (x11.1.1, (x2, ()))))))
  else (lt (x1.1.2.1 != (0 : Int)) fun (x11 : Bool) =>
  (if (x11 = Bool.true) then
  (Option.some ((Bool.false, ()), ()))
  else (x10 ((x1.1, ()), (x1.2.1, (x3, (x2, ())))))))))))))))))))))))
theorem k156 : c_fn Tryz.prog ⟨[(173, ⟨s173, d173⟩)], ks0⟩ Tryz.f156 s156 h156 = some d156 := by kernel_rfl
/-- (*bulkhead/check.joints).join -/
def s206 : Sig := ⟨[((.ptr 231 (.pair (.sl 41 (.pair (.int .i64) (.pair (.int .i64) (.pair .bool (.pair (.int .i64) kI2))))) (.pair (.arr 65 .bool) (.pair (.int .i64) .unit)))), (.mut (.ow .sh))), ((.int .i64), .val), ((.int .i64), .val), (.bool, .val)], [(.bool, .val)]⟩
 def h206 : Hint := (.seq .leaf
   (.seq (.seq .leaf
   (.cond none
     (.seq .leaf
     .leaf)
     .leaf))
   (.seq .leaf
   (.seq (.seq .leaf
   (.cond none
     (.seq .leaf
     .leaf)
     .leaf))
   (.seq .leaf
   (.seq .leaf
   .leaf))))))
def d206 : (Nat → ((((List (Int × (Int × (Bool × (Int × I2))))) × ((List Bool) × (Int × Unit))) × (Int × (Int × (Bool × Unit)))) → (Option ((Bool × Unit) × (((List (Int × (Int × (Bool × (Int × I2))))) × ((List Bool) × (Int × Unit))) × Unit))))) :=
  (fun (x0 : Nat) => (fun (x1 : (((List (Int × (Int × (Bool × (Int × I2))))) × ((List Bool) × (Int × Unit))) × (Int × (Int × (Bool × Unit))))) => (lt (((List.length x1.1.1) : Nat) : Int) fun (x2 : Int) =>
  (Option.bind (d173 x0 (x1.2.1, ((1 : Int), (x2, ())))) fun (x3 : ((Bool × Unit) × Unit)) =>
  (lt (Bool.not x3.1.1) fun (x4 : Bool) =>
  (if (((Bool.not ((x4 == Bool.false) && Bool.true)) || ((Decidable.decide ((0 : Int) ≤ x1.2.1)) && (Decidable.decide (x1.2.1 < (((65 : Nat) : Nat) : Int))))) = Bool.true) then
  (if (((Bool.not ((x4 == Bool.false) && Bool.true)) || ((Decidable.decide ((Int.toNat x1.2.1) < (List.length x1.1.2.1))) && Bool.true)) = Bool.true) then
  (lt (List.getD x1.1.2.1 (Int.toNat x1.2.1) Bool.false) fun (x5 : Bool) =>
  (lt (if (x4 = Bool.true) then
  Bool.true
  else x5) fun (x6 : Bool) =>
  (if (x6 = Bool.true) then
  (Option.some ((Bool.false, ()), (x1.1, ())))
  else (lt (Go.IntKind.wrap Go.IntKind.i64 (x1.2.1 - (1 : Int))) fun (x7 : Int) =>
  (if (((Decidable.decide ((0 : Int) ≤ x7)) && (Decidable.decide (x7 < (((List.length x1.1.1) : Nat) : Int)))) = Bool.true) then
  (lt (List.getD x1.1.1 (Int.toNat x7) ((0 : Int), ((0 : Int), (Bool.false, ((0 : Int), ((0 : Int), ((0 : Int), ()))))))) fun (x8 : (Int × (Int × (Bool × (Int × I2))))) =>
  (lt (Bool.not (x8.2.2.1 == x1.2.2.2.1)) fun (x9 : Bool) =>
  (lt (x8.2.1 != x1.2.2.1) fun (x10 : Bool) =>
  (lt (if (x9 = Bool.true) then
  Bool.true
  else x10) fun (x11 : Bool) =>
  (lt (x1.1.2.2.1 != (0 : Int)) fun (x12 : Bool) =>
  (lt (x8.2.2.2.1 != x1.1.2.2.1) fun (x13 : Bool) =>
  (lt (if (x12 = Bool.true) then
  x13
  else Bool.false) fun (x14 : Bool) =>
  (lt (if (x11 = Bool.true) then
  Bool.true
  else x14) fun (x15 : Bool) =>
  (if (x15 = Bool.true) then
  (Option.some ((Bool.false, ()), (x1.1, ())))
  else (if (((Decidable.decide ((0 : Int) ≤ x1.2.1)) && (Decidable.decide (x1.2.1 < (((65 : Nat) : Nat) : Int)))) = Bool.true) then
  (if (((Decidable.decide ((Int.toNat x1.2.1) < (List.length x1.1.2.1))) && Bool.true) = Bool.true) then
  (Option.some ((Bool.true, ()), ((x1.1.1, ((List.set x1.1.2.1 (Int.toNat x1.2.1) Bool.true), (x8.2.2.2.1, x1.1.2.2.2))), ())))
  else (Option.none))
  else (Option.none)))))))))))
  else (Option.none))))))
  else (Option.none))
  else (Option.none)))))))
theorem k206 : c_fn Tryz.prog ⟨[(173, ⟨s173, d173⟩)], ks0⟩ Tryz.f206 s206 h206 = some d206 := by kernel_rfl
/-- (*bulkhead/check.joints).channel -/
def s157 : Sig := ⟨[((.ptr 231 (.pair (.sl 41 (.pair (.int .i64) (.pair (.int .i64) (.pair .bool (.pair (.int .i64) kI2))))) (.pair (.arr 65 .bool) (.pair (.int .i64) .unit)))), (.mut (.ow .sh))), (kCH, .val)], [(.bool, .val)]⟩
 def h157 : Hint := (.seq .leaf
   (.seq .leaf
   (.seq (.seq (.pre ⟨[((.ptr 231 (.pair (.sl 41 (.pair (.int .i64) (.pair (.int .i64) (.pair .bool (.pair (.int .i64) kI2))))) (.pair (.arr 65 .bool) (.pair (.int .i64) .unit)))), (.ow .sh), (0, 0)), ((.ptr 34 kCH), (.ow .sh), (3, 0))], [((0, 0), (.own 0)), ((3, 0), (.own 1))]⟩ .leaf)
   (.cond none
     (.seq .leaf
     .leaf)
     .leaf))
   (.seq (.seq .leaf
   (.block ⟨[((.ptr 231 (.pair (.sl 41 (.pair (.int .i64) (.pair (.int .i64) (.pair .bool (.pair (.int .i64) kI2))))) (.pair (.arr 65 .bool) (.pair (.int .i64) .unit)))), (.ow .sh), (0, 0)), ((.ptr 34 kCH), (.ow .sh), (3, 0))], [((0, 0), (.own 0)), ((3, 0), (.own 1))]⟩ true
     (.loop ⟨[((.ptr 231 (.pair (.sl 41 (.pair (.int .i64) (.pair (.int .i64) (.pair .bool (.pair (.int .i64) kI2))))) (.pair (.arr 65 .bool) (.pair (.int .i64) .unit)))), (.ow .sh), (0, 0)), ((.ptr 34 kCH), (.ow .sh), (3, 0))], [((0, 0), (.own 0)), ((42, 0), (.val (.int .i64))), ((3, 0), (.own 1)), ((40, 0), (.val (.sl 3 (.int .i64)))), ((41, 0), (.val (.int .i64)))]⟩
       (.seq .leaf
       (.seq (.cond none
         .leaf
         .leaf)
       (.seq (.block ⟨[((.ptr 231 (.pair (.sl 41 (.pair (.int .i64) (.pair (.int .i64) (.pair .bool (.pair (.int .i64) kI2))))) (.pair (.arr 65 .bool) (.pair (.int .i64) .unit)))), (.ow .sh), (0, 0)), ((.ptr 34 kCH), (.ow .sh), (3, 0))], [((0, 0), (.own 0)), ((3, 0), (.own 1)), ((40, 0), (.val (.sl 3 (.int .i64)))), ((41, 0), (.val (.int .i64))), ((42, 0), (.val (.int .i64)))]⟩ true
         (.seq .leaf
         (.seq .leaf
         (.cond none
           (.seq .leaf
           .leaf)
           .leaf))))
       .leaf))))))
   (.seq (.seq .leaf
   (.cond none
     (.seq .leaf
     .leaf)
     .leaf))
   (.seq .leaf
   .leaf))))))
def d157_K1 (x0 : Nat) : (((((List (Int × (Int × (Bool × (Int × I2))))) × ((List Bool) × (Int × Unit))) × (CH × Unit)) × Unit) → (Option ((Bool × Unit) × (((List (Int × (Int × (Bool × (Int × I2))))) × ((List Bool) × (Int × Unit))) × Unit)))) :=
  (fun (x15 : ((((List (Int × (Int × (Bool × (Int × I2))))) × ((List Bool) × (Int × Unit))) × (CH × Unit)) × Unit)) => (lt (x15.1.2.1.1 == (1 : Int)) fun (x16 : Bool) =>
  (lt (x15.1.2.1.2.1 != (0 : Int)) fun (x17 : Bool) =>
  (lt (if (x16 = Bool.true) then
  x17
  else Bool.false) fun (x18 : Bool) =>
  (if (x18 = Bool.true) then
  (Option.bind (d173 x0 (x15.1.2.1.2.2.2.2.1, ((1 : Int), ((1048576 : Int), ())))) fun (x19 : ((Bool × Unit) × Unit)) =>
  (lt (Go.IntKind.wrap Go.IntKind.i64 (x15.1.2.1.2.2.2.2.1 - (1 : Int))) fun (x20 : Int) =>
  (Option.bind (if (((x19.1.1 == Bool.true) && Bool.true) = Bool.true) then
  (d173 x0 (x15.1.2.1.2.2.2.1, ((0 : Int), (x20, ()))))
  else (Option.some ((Bool.false, ()), ()))) fun (x21 : ((Bool × Unit) × Unit)) =>
  (Option.some (((if (x19.1.1 = Bool.true) then
  x21.1.1
  else Bool.false), ()), (x15.1.1, ()))))))
  else (lt (x15.1.2.1.2.2.2.2.1 == (0 : Int)) fun (x19 : Bool) =>
  (lt (x15.1.2.1.2.2.2.1 == (0 : Int)) fun (x20 : Bool) =>
  (Option.some (((if (x19 = Bool.true) then
  x20
  else Bool.false), ()), (x15.1.1, ()))))))))))
def d157_K2 (x16 : (((((List (Int × (Int × (Bool × (Int × I2))))) × ((List Bool) × (Int × Unit))) × (CH × Unit)) × (Int × ((List Int) × (Int × Unit)))) → (Option ((Bool × Unit) × (((List (Int × (Int × (Bool × (Int × I2))))) × ((List Bool) × (Int × Unit))) × Unit))))) : (((((List (Int × (Int × (Bool × (Int × I2))))) × ((List Bool) × (Int × Unit))) × (CH × Unit)) × ((List Int) × I2)) → (Option ((Bool × Unit) × (((List (Int × (Int × (Bool × (Int × I2))))) × ((List Bool) × (Int × Unit))) × Unit)))) :=
  (fun (x19 : ((((List (Int × (Int × (Bool × (Int × I2))))) × ((List Bool) × (Int × Unit))) × (CH × Unit)) × ((List Int) × I2))) => (x16 ((x19.1.1, (x19.1.2.1, ())), ((Go.IntKind.wrap Go.IntKind.i64 (x19.2.2.2.1 + (1 : Int))), (x19.2.1, (x19.2.2.1, ()))))))
def d157_L3 (x0 : Nat) (x15 : (((((List (Int × (Int × (Bool × (Int × I2))))) × ((List Bool) × (Int × Unit))) × (CH × Unit)) × Unit) → (Option ((Bool × Unit) × (((List (Int × (Int × (Bool × (Int × I2))))) × ((List Bool) × (Int × Unit))) × Unit))))) : ((((((List (Int × (Int × (Bool × (Int × I2))))) × ((List Bool) × (Int × Unit))) × (CH × Unit)) × (Int × ((List Int) × (Int × Unit)))) → (Option ((Bool × Unit) × (((List (Int × (Int × (Bool × (Int × I2))))) × ((List Bool) × (Int × Unit))) × Unit)))) → (((((List (Int × (Int × (Bool × (Int × I2))))) × ((List Bool) × (Int × Unit))) × (CH × Unit)) × (Int × ((List Int) × (Int × Unit)))) → (Option ((Bool × Unit) × (((List (Int × (Int × (Bool × (Int × I2))))) × ((List Bool) × (Int × Unit))) × Unit))))) :=
  (fun (x16 : (((((List (Int × (Int × (Bool × (Int × I2))))) × ((List Bool) × (Int × Unit))) × (CH × Unit)) × (Int × ((List Int) × (Int × Unit)))) → (Option ((Bool × Unit) × (((List (Int × (Int × (Bool × (Int × I2))))) × ((List Bool) × (Int × Unit))) × Unit))))) => (fun (x17 : ((((List (Int × (Int × (Bool × (Int × I2))))) × ((List Bool) × (Int × Unit))) × (CH × Unit)) × (Int × ((List Int) × (Int × Unit))))) => (lt (Decidable.decide (x17.2.1 < x17.2.2.2.1)) fun (x18 : Bool) =>
  (if (x18 = Bool.true) then
  (shr (d157_K2 x16) (fun (x19 : (((((List (Int × (Int × (Bool × (Int × I2))))) × ((List Bool) × (Int × Unit))) × (CH × Unit)) × ((List Int) × I2)) → (Option ((Bool × Unit) × (((List (Int × (Int × (Bool × (Int × I2))))) × ((List Bool) × (Int × Unit))) × Unit))))) => (if (((Decidable.decide ((0 : Int) ≤ x17.2.1)) && (Decidable.decide (x17.2.1 < (((List.length x17.2.2.1) : Nat) : Int)))) = Bool.true) then
  (lt (List.getD x17.2.2.1 (Int.toNat x17.2.1) (0 : Int)) fun (x20 : Int) =>
  (lt (Decidable.decide (x17.2.1 > (0 : Int))) fun (x21 : Bool) =>
  (lt (Go.IntKind.wrap Go.IntKind.i64 (x17.2.1 - (1 : Int))) fun (x22 : Int) =>
  (if (((Bool.not ((x21 == Bool.true) && Bool.true)) || ((Decidable.decide ((0 : Int) ≤ x22)) && (Decidable.decide (x22 < (((List.length x17.1.2.1.2.2.1) : Nat) : Int))))) = Bool.true) then
  (lt (List.getD x17.1.2.1.2.2.1 (Int.toNat x22) (0 : Int)) fun (x23 : Int) =>
  (lt (Decidable.decide (x20 ≤ x23)) fun (x24 : Bool) =>
  (lt (if (x21 = Bool.true) then
  x24
  else Bool.false) fun (x25 : Bool) =>
  (Option.bind (if (((x25 == Bool.false) && Bool.true) = Bool.true) then
  (d206 x0 (x17.1.1, (x20, (x17.1.2.1.1, (Bool.false, ())))))
  else (Option.some ((Bool.false, ()), ((([] : List (Int × (Int × (Bool × (Int × I2))))), ((List.replicate (65 : Nat) Bool.false), ((0 : Int), ()))), ())))) fun (x26 : ((Bool × Unit) × (((List (Int × (Int × (Bool × (Int × I2))))) × ((List Bool) × (Int × Unit))) × Unit))) =>
  (lt (Bool.not x26.1.1) fun (x27 : Bool) =>
  (lt (if (x25 = Bool.true) then
  Bool.true
  else x27) fun (x28 : Bool) =>
  (if (x28 = Bool.true) then
  (Option.some ((Bool.false, ()), ((if (((x25 == Bool.false) && Bool.true) = Bool.true) then
  x26.2.1
  else x17.1.1), ())))
  else (x19 (((if (((x25 == Bool.false) && Bool.true) = Bool.true) then
  x26.2.1
  else x17.1.1), (x17.1.2.1, ())), (x17.2.2.1, (x17.2.2.2.1, (x17.2.1, ()))))))))))))
  else (Option.none)))))
  else (Option.none))))
  else (x15 ((x17.1.1, (x17.1.2.1, ())), ()))))))
def d157 : (Nat → ((((List (Int × (Int × (Bool × (Int × I2))))) × ((List Bool) × (Int × Unit))) × (CH × Unit)) → (Option ((Bool × Unit) × (((List (Int × (Int × (Bool × (Int × I2))))) × ((List Bool) × (Int × Unit))) × Unit))))) :=
  (fun (x0 : Nat) => (fun (x1 : (((List (Int × (Int × (Bool × (Int × I2))))) × ((List Bool) × (Int × Unit))) × (CH × Unit))) => (Option.bind (d173 x0 (x1.2.1.1, ((0 : Int), ((1 : Int), ())))) fun (x2 : ((Bool × Unit) × Unit)) =>
  (lt (Bool.not x2.1.1) fun (x3 : Bool) =>
  (lt (x1.2.1.2.1 == (0 : Int)) fun (x4 : Bool) =>
  (lt (((List.length x1.2.1.2.2.1) : Nat) : Int) fun (x5 : Int) =>
  (lt (x5 == (0 : Int)) fun (x6 : Bool) =>
  (lt (if (x4 = Bool.true) then
  x6
  else Bool.false) fun (x7 : Bool) =>
  (lt (if (x3 = Bool.true) then
  Bool.true
  else x7) fun (x8 : Bool) =>
  (lt (x1.2.1.2.1 != (0 : Int)) fun (x9 : Bool) =>
  (Option.bind (if (((x9 == Bool.true) && ((x8 == Bool.false) && Bool.true)) = Bool.true) then
  (d206 x0 ((x1.1.1, (x1.1.2.1, ((0 : Int), x1.1.2.2.2))), (x1.2.1.2.1, (x1.2.1.1, (Bool.true, ())))))
  else (Option.some ((Bool.false, ()), ((([] : List (Int × (Int × (Bool × (Int × I2))))), ((List.replicate (65 : Nat) Bool.false), ((0 : Int), ()))), ())))) fun (x10 : ((Bool × Unit) × (((List (Int × (Int × (Bool × (Int × I2))))) × ((List Bool) × (Int × Unit))) × Unit))) =>
  (lt (Bool.not x10.1.1) fun (x11 : Bool) =>
  (lt (if (x9 = Bool.true) then
  x11
  else Bool.false) fun (x12 : Bool) =>
  (lt (if (x8 = Bool.true) then
  Bool.true
  else x12) fun (x13 : Bool) =>
  (if (x13 = Bool.true) then
  (Option.some ((Bool.false, ()), ((if (((x9 == Bool.true) && ((x8 == Bool.false) && Bool.true)) = Bool.true) then
  x10.2.1
  else (x1.1.1, (x1.1.2.1, ((0 : Int), x1.1.2.2.2)))), ())))
  else (lt (((List.length x1.2.1.2.2.1) : Nat) : Int) fun (x14 : Int) =>
  (shr (d157_K1 x0) (fun (x15 : (((((List (Int × (Int × (Bool × (Int × I2))))) × ((List Bool) × (Int × Unit))) × (CH × Unit)) × Unit) → (Option ((Bool × Unit) × (((List (Int × (Int × (Bool × (Int × I2))))) × ((List Bool) × (Int × Unit))) × Unit))))) => (loopN (d157_L3 x0 x15) x0 (((if (((x9 == Bool.true) && ((x8 == Bool.false) && Bool.true)) = Bool.true) then
  x10.2.1
  else (x1.1.1, (x1.1.2.1, ((0 : Int), x1.1.2.2.2)))), (x1.2.1, ())), ((0 : Int), (x1.2.1.2.2.1, (x14, ())))))))))))))))))))))))
theorem k157 : c_fn Tryz.prog ⟨[(173, ⟨s173, d173⟩), (206, ⟨s206, d206⟩)], ks0⟩ Tryz.f157 s157 h157 = some d157 := by kernel_rfl
/-- bulkhead/check.check -/
def s135 : Sig := ⟨[((.pair (.sl 64 kPT) (.pair (.sl 41 (.pair (.int .i64) (.pair (.int .i64) (.pair .bool (.pair (.int .i64) kI2))))) (.pair (.sl 34 kCH) .unit))), .val)], [((.ifc 205 (.ptr 207 kI2)), (.own (.ow (.ow .sh))))]⟩
 def h135 : Hint := (.seq .leaf
   (.seq (.seq .leaf
   (.cond none
     (.seq .leaf
     .leaf)
     .leaf))
   (.seq .leaf
   (.seq (.seq .leaf
   (.block ⟨[((.ptr 26 (.pair (.sl 64 kPT) (.pair (.sl 41 (.pair (.int .i64) (.pair (.int .i64) (.pair .bool (.pair (.int .i64) kI2))))) (.pair (.sl 34 kCH) .unit)))), (.ow .sh), (1, 0)), ((.sl 55 kSV), (.ow .sh), (3, 0))], [((1, 0), (.own 0)), ((3, 0), (.own 1))]⟩ true
     (.loop ⟨[((.sl 55 kSV), (.ow .sh), (3, 0)), ((.ptr 26 (.pair (.sl 64 kPT) (.pair (.sl 41 (.pair (.int .i64) (.pair (.int .i64) (.pair .bool (.pair (.int .i64) kI2))))) (.pair (.sl 34 kCH) .unit)))), (.ow .sh), (1, 0))], [((39, 0), (.val (.int .i64))), ((3, 0), (.own 0)), ((37, 0), (.val (.sl 64 kPT))), ((1, 0), (.own 1)), ((38, 0), (.val (.int .i64)))]⟩
       (.seq .leaf
       (.seq (.cond none
         .leaf
         .leaf)
       (.seq (.block ⟨[((.sl 55 kSV), (.ow .sh), (3, 0)), ((.ptr 26 (.pair (.sl 64 kPT) (.pair (.sl 41 (.pair (.int .i64) (.pair (.int .i64) (.pair .bool (.pair (.int .i64) kI2))))) (.pair (.sl 34 kCH) .unit)))), (.ow .sh), (1, 0))], [((3, 0), (.own 0)), ((37, 0), (.val (.sl 64 kPT))), ((1, 0), (.own 1)), ((38, 0), (.val (.int .i64))), ((39, 0), (.val (.int .i64)))]⟩ true
         (.seq .leaf
         (.seq (.seq .leaf
         (.seq .leaf
         (.cond none
           (.seq .leaf
           .leaf)
           .leaf)))
         .leaf)))
       .leaf))))))
   (.seq (.seq .leaf
   (.seq .leaf
   (.cond none
     (.seq .leaf
     .leaf)
     .leaf)))
   (.seq (.seq .leaf
   (.block ⟨[((.ptr 26 (.pair (.sl 64 kPT) (.pair (.sl 41 (.pair (.int .i64) (.pair (.int .i64) (.pair .bool (.pair (.int .i64) kI2))))) (.pair (.sl 34 kCH) .unit)))), (.ow .sh), (1, 0))], [((1, 0), (.own 0))]⟩ true
     (.loop ⟨[((.ptr 26 (.pair (.sl 64 kPT) (.pair (.sl 41 (.pair (.int .i64) (.pair (.int .i64) (.pair .bool (.pair (.int .i64) kI2))))) (.pair (.sl 34 kCH) .unit)))), (.ow .sh), (1, 0))], [((69, 0), (.val (.int .i64))), ((67, 0), (.val (.sl 64 kPT))), ((1, 0), (.own 0)), ((68, 0), (.val (.int .i64)))]⟩
       (.seq .leaf
       (.seq (.cond none
         .leaf
         .leaf)
       (.seq (.block ⟨[((.ptr 26 (.pair (.sl 64 kPT) (.pair (.sl 41 (.pair (.int .i64) (.pair (.int .i64) (.pair .bool (.pair (.int .i64) kI2))))) (.pair (.sl 34 kCH) .unit)))), (.ow .sh), (1, 0))], [((67, 0), (.val (.sl 64 kPT))), ((1, 0), (.own 0)), ((68, 0), (.val (.int .i64))), ((69, 0), (.val (.int .i64)))]⟩ true
         (.seq .leaf
         (.seq .leaf
         (.seq .leaf
         (.cond none
           (.seq .leaf
           .leaf)
           .leaf)))))
       .leaf))))))
   (.seq (.seq .leaf
   (.block ⟨[((.ptr 26 (.pair (.sl 64 kPT) (.pair (.sl 41 (.pair (.int .i64) (.pair (.int .i64) (.pair .bool (.pair (.int .i64) kI2))))) (.pair (.sl 34 kCH) .unit)))), (.ow .sh), (1, 0))], [((1, 0), (.own 0))]⟩ true
     (.loop ⟨[((.ptr 26 (.pair (.sl 64 kPT) (.pair (.sl 41 (.pair (.int .i64) (.pair (.int .i64) (.pair .bool (.pair (.int .i64) kI2))))) (.pair (.sl 34 kCH) .unit)))), (.ow .sh), (1, 0))], [((86, 0), (.val (.int .i64))), ((1, 0), (.own 0)), ((84, 0), (.val (.sl 41 (.pair (.int .i64) (.pair (.int .i64) (.pair .bool (.pair (.int .i64) kI2))))))), ((85, 0), (.val (.int .i64)))]⟩
       (.seq .leaf
       (.seq (.cond none
         .leaf
         .leaf)
       (.seq (.block ⟨[((.ptr 26 (.pair (.sl 64 kPT) (.pair (.sl 41 (.pair (.int .i64) (.pair (.int .i64) (.pair .bool (.pair (.int .i64) kI2))))) (.pair (.sl 34 kCH) .unit)))), (.ow .sh), (1, 0))], [((1, 0), (.own 0)), ((84, 0), (.val (.sl 41 (.pair (.int .i64) (.pair (.int .i64) (.pair .bool (.pair (.int .i64) kI2))))))), ((85, 0), (.val (.int .i64))), ((86, 0), (.val (.int .i64)))]⟩ true
         (.seq .leaf
         (.seq .leaf
         (.cond none
           (.seq .leaf
           .leaf)
           .leaf))))
       .leaf))))))
   (.seq .leaf
   (.seq (.seq .leaf
   (.block ⟨[], []⟩ true
     (.loop ⟨[((.ptr 231 (.pair (.sl 41 (.pair (.int .i64) (.pair (.int .i64) (.pair .bool (.pair (.int .i64) kI2))))) (.pair (.arr 65 .bool) (.pair (.int .i64) .unit)))), (.ow .sh), (14, 0))], [((110, 0), (.val (.int .i64))), ((14, 0), (.own 0)), ((108, 0), (.val (.sl 34 kCH))), ((109, 0), (.val (.int .i64)))]⟩
       (.seq .leaf
       (.seq (.cond none
         .leaf
         .leaf)
       (.seq (.block ⟨[((.ptr 231 (.pair (.sl 41 (.pair (.int .i64) (.pair (.int .i64) (.pair .bool (.pair (.int .i64) kI2))))) (.pair (.arr 65 .bool) (.pair (.int .i64) .unit)))), (.ow .sh), (14, 0))], [((14, 0), (.own 0)), ((108, 0), (.val (.sl 34 kCH))), ((109, 0), (.val (.int .i64))), ((110, 0), (.val (.int .i64)))]⟩ true
         (.seq .leaf
         (.seq .leaf
         (.cond none
           (.seq .leaf
           .leaf)
           .leaf))))
       .leaf))))))
   (.seq .leaf
   .leaf))))))))))
def d135_K1  : ((Unit × Unit) → (Option (((Option I2) × Unit) × Unit))) :=
  (fun (x15 : (Unit × Unit)) => (Option.some (((Option.none), ()), ())))
def d135_K2 (x16 : (((((List (Int × (Int × (Bool × (Int × I2))))) × ((List Bool) × (Int × Unit))) × Unit) × (Int × ((List CH) × (Int × Unit)))) → (Option (((Option I2) × Unit) × Unit)))) : (((((List (Int × (Int × (Bool × (Int × I2))))) × ((List Bool) × (Int × Unit))) × Unit) × ((List CH) × I2)) → (Option (((Option I2) × Unit) × Unit))) :=
  (fun (x19 : ((((List (Int × (Int × (Bool × (Int × I2))))) × ((List Bool) × (Int × Unit))) × Unit) × ((List CH) × I2))) => (x16 ((x19.1.1, ()), ((Go.IntKind.wrap Go.IntKind.i64 (x19.2.2.2.1 + (1 : Int))), (x19.2.1, (x19.2.2.1, ()))))))
def d135_L3 (x0 : Nat) (x15 : ((Unit × Unit) → (Option (((Option I2) × Unit) × Unit)))) : ((((((List (Int × (Int × (Bool × (Int × I2))))) × ((List Bool) × (Int × Unit))) × Unit) × (Int × ((List CH) × (Int × Unit)))) → (Option (((Option I2) × Unit) × Unit))) → (((((List (Int × (Int × (Bool × (Int × I2))))) × ((List Bool) × (Int × Unit))) × Unit) × (Int × ((List CH) × (Int × Unit)))) → (Option (((Option I2) × Unit) × Unit)))) :=
  (fun (x16 : (((((List (Int × (Int × (Bool × (Int × I2))))) × ((List Bool) × (Int × Unit))) × Unit) × (Int × ((List CH) × (Int × Unit)))) → (Option (((Option I2) × Unit) × Unit)))) => (fun (x17 : ((((List (Int × (Int × (Bool × (Int × I2))))) × ((List Bool) × (Int × Unit))) × Unit) × (Int × ((List CH) × (Int × Unit))))) => (lt (Decidable.decide (x17.2.1 < x17.2.2.2.1)) fun (x18 : Bool) =>
  (if (x18 = Bool.true) then
  (shr (d135_K2 x16) (fun (x19 : (((((List (Int × (Int × (Bool × (Int × I2))))) × ((List Bool) × (Int × Unit))) × Unit) × ((List CH) × I2)) → (Option (((Option I2) × Unit) × Unit)))) => (if (((Decidable.decide ((0 : Int) ≤ x17.2.1)) && (Decidable.decide (x17.2.1 < (((List.length x17.2.2.1) : Nat) : Int)))) = Bool.true) then
  (lt (List.getD x17.2.2.1 (Int.toNat x17.2.1) ((0 : Int), ((0 : Int), (([] : List Int), ((0 : Int), ((0 : Int), ())))))) fun (x20 : CH) =>
  (Option.bind (d157 x0 (x17.1.1, (x20, ()))) fun (x21 : ((Bool × Unit) × (((List (Int × (Int × (Bool × (Int × I2))))) × ((List Bool) × (Int × Unit))) × Unit))) =>
  (lt (Bool.not x21.1.1) fun (x22 : Bool) =>
  (if (x22 = Bool.true) then
  (Option.some (((Option.some ((108 : Int), ((Go.IntKind.wrap Go.IntKind.i64 (x17.2.1 + (1 : Int))), ()))), ()), ()))
  else (x19 ((x21.2.1, ()), (x17.2.2.1, (x17.2.2.2.1, (x17.2.1, ())))))))))
  else (Option.none))))
  else (x15 ((), ()))))))
def d135_K4 (x0 : Nat) : (((((List PT) × ((List (Int × (Int × (Bool × (Int × I2))))) × ((List CH) × Unit))) × Unit) × Unit) → (Option (((Option I2) × Unit) × Unit))) :=
  (fun (x14 : ((((List PT) × ((List (Int × (Int × (Bool × (Int × I2))))) × ((List CH) × Unit))) × Unit) × Unit)) => (shr d135_K1 (fun (x15 : ((Unit × Unit) → (Option (((Option I2) × Unit) × Unit)))) => (loopN (d135_L3 x0 x15) x0 (((x14.1.1.2.1, ((List.replicate (65 : Nat) Bool.false), ((0 : Int), ()))), ()), ((0 : Int), (x14.1.1.2.2.1, ((((List.length x14.1.1.2.2.1) : Nat) : Int), ()))))))))
def d135_K5 (x15 : (((((List PT) × ((List (Int × (Int × (Bool × (Int × I2))))) × ((List CH) × Unit))) × Unit) × (Int × ((List (Int × (Int × (Bool × (Int × I2))))) × (Int × Unit)))) → (Option (((Option I2) × Unit) × Unit)))) : (((((List PT) × ((List (Int × (Int × (Bool × (Int × I2))))) × ((List CH) × Unit))) × Unit) × ((List (Int × (Int × (Bool × (Int × I2))))) × I2)) → (Option (((Option I2) × Unit) × Unit))) :=
  (fun (x18 : ((((List PT) × ((List (Int × (Int × (Bool × (Int × I2))))) × ((List CH) × Unit))) × Unit) × ((List (Int × (Int × (Bool × (Int × I2))))) × I2))) => (x15 ((x18.1.1, ()), ((Go.IntKind.wrap Go.IntKind.i64 (x18.2.2.2.1 + (1 : Int))), (x18.2.1, (x18.2.2.1, ()))))))
def d135_L6 (x0 : Nat) (x14 : (((((List PT) × ((List (Int × (Int × (Bool × (Int × I2))))) × ((List CH) × Unit))) × Unit) × Unit) → (Option (((Option I2) × Unit) × Unit)))) : ((((((List PT) × ((List (Int × (Int × (Bool × (Int × I2))))) × ((List CH) × Unit))) × Unit) × (Int × ((List (Int × (Int × (Bool × (Int × I2))))) × (Int × Unit)))) → (Option (((Option I2) × Unit) × Unit))) → (((((List PT) × ((List (Int × (Int × (Bool × (Int × I2))))) × ((List CH) × Unit))) × Unit) × (Int × ((List (Int × (Int × (Bool × (Int × I2))))) × (Int × Unit)))) → (Option (((Option I2) × Unit) × Unit)))) :=
  (fun (x15 : (((((List PT) × ((List (Int × (Int × (Bool × (Int × I2))))) × ((List CH) × Unit))) × Unit) × (Int × ((List (Int × (Int × (Bool × (Int × I2))))) × (Int × Unit)))) → (Option (((Option I2) × Unit) × Unit)))) => (fun (x16 : ((((List PT) × ((List (Int × (Int × (Bool × (Int × I2))))) × ((List CH) × Unit))) × Unit) × (Int × ((List (Int × (Int × (Bool × (Int × I2))))) × (Int × Unit))))) => (lt (Decidable.decide (x16.2.1 < x16.2.2.2.1)) fun (x17 : Bool) =>
  (if (x17 = Bool.true) then
  (shr (d135_K5 x15) (fun (x18 : (((((List PT) × ((List (Int × (Int × (Bool × (Int × I2))))) × ((List CH) × Unit))) × Unit) × ((List (Int × (Int × (Bool × (Int × I2))))) × I2)) → (Option (((Option I2) × Unit) × Unit)))) => (if (((Decidable.decide ((0 : Int) ≤ x16.2.1)) && (Decidable.decide (x16.2.1 < (((List.length x16.2.2.1) : Nat) : Int)))) = Bool.true) then
  (lt (List.getD x16.2.2.1 (Int.toNat x16.2.1) ((0 : Int), ((0 : Int), (Bool.false, ((0 : Int), ((0 : Int), ((0 : Int), ()))))))) fun (x19 : (Int × (Int × (Bool × (Int × I2))))) =>
  (lt (((List.length x16.1.1.1) : Nat) : Int) fun (x20 : Int) =>
  (Option.bind (d156 x0 (x19, (x20, ()))) fun (x21 : ((Bool × Unit) × Unit)) =>
  (lt (Bool.not x21.1.1) fun (x22 : Bool) =>
  (if (x22 = Bool.true) then
  (Option.some (((Option.some ((107 : Int), ((Go.IntKind.wrap Go.IntKind.i64 (x16.2.1 + (1 : Int))), ()))), ()), ()))
  else (x18 ((x16.1.1, ()), (x16.2.2.1, (x16.2.2.2.1, (x16.2.1, ()))))))))))
  else (Option.none))))
  else (x14 ((x16.1.1, ()), ()))))))
def d135_K7 (x0 : Nat) : (((((List PT) × ((List (Int × (Int × (Bool × (Int × I2))))) × ((List CH) × Unit))) × Unit) × Unit) → (Option (((Option I2) × Unit) × Unit))) :=
  (fun (x13 : ((((List PT) × ((List (Int × (Int × (Bool × (Int × I2))))) × ((List CH) × Unit))) × Unit) × Unit)) => (shr (d135_K4 x0) (fun (x14 : (((((List PT) × ((List (Int × (Int × (Bool × (Int × I2))))) × ((List CH) × Unit))) × Unit) × Unit) → (Option (((Option I2) × Unit) × Unit)))) => (loopN (d135_L6 x0 x14) x0 ((x13.1.1, ()), ((0 : Int), (x13.1.1.2.1, ((((List.length x13.1.1.2.1) : Nat) : Int), ()))))))))
def d135_K8 (x14 : (((((List PT) × ((List (Int × (Int × (Bool × (Int × I2))))) × ((List CH) × Unit))) × Unit) × (Int × ((List PT) × (Int × Unit)))) → (Option (((Option I2) × Unit) × Unit)))) : (((((List PT) × ((List (Int × (Int × (Bool × (Int × I2))))) × ((List CH) × Unit))) × Unit) × ((List PT) × I2)) → (Option (((Option I2) × Unit) × Unit))) :=
  (fun (x17 : ((((List PT) × ((List (Int × (Int × (Bool × (Int × I2))))) × ((List CH) × Unit))) × Unit) × ((List PT) × I2))) => (x14 ((x17.1.1, ()), ((Go.IntKind.wrap Go.IntKind.i64 (x17.2.2.2.1 + (1 : Int))), (x17.2.1, (x17.2.2.1, ()))))))
def d135_L9 (x0 : Nat) (x13 : (((((List PT) × ((List (Int × (Int × (Bool × (Int × I2))))) × ((List CH) × Unit))) × Unit) × Unit) → (Option (((Option I2) × Unit) × Unit)))) : ((((((List PT) × ((List (Int × (Int × (Bool × (Int × I2))))) × ((List CH) × Unit))) × Unit) × (Int × ((List PT) × (Int × Unit)))) → (Option (((Option I2) × Unit) × Unit))) → (((((List PT) × ((List (Int × (Int × (Bool × (Int × I2))))) × ((List CH) × Unit))) × Unit) × (Int × ((List PT) × (Int × Unit)))) → (Option (((Option I2) × Unit) × Unit)))) :=
  (fun (x14 : (((((List PT) × ((List (Int × (Int × (Bool × (Int × I2))))) × ((List CH) × Unit))) × Unit) × (Int × ((List PT) × (Int × Unit)))) → (Option (((Option I2) × Unit) × Unit)))) => (fun (x15 : ((((List PT) × ((List (Int × (Int × (Bool × (Int × I2))))) × ((List CH) × Unit))) × Unit) × (Int × ((List PT) × (Int × Unit))))) => (lt (Decidable.decide (x15.2.1 < x15.2.2.2.1)) fun (x16 : Bool) =>
  (if (x16 = Bool.true) then
  (shr (d135_K8 x14) (fun (x17 : (((((List PT) × ((List (Int × (Int × (Bool × (Int × I2))))) × ((List CH) × Unit))) × Unit) × ((List PT) × I2)) → (Option (((Option I2) × Unit) × Unit)))) => (if (((Decidable.decide ((0 : Int) ≤ x15.2.1)) && (Decidable.decide (x15.2.1 < (((List.length x15.2.2.1) : Nat) : Int)))) = Bool.true) then
  (lt (List.getD x15.2.2.1 (Int.toNat x15.2.1) (((0 : Int), ((0 : Int), ((0 : Int), ((0 : Int), ())))), ((0 : Int), ((0 : Int), (([] : List Int), (([] : List IS), (([] : List PC), ((0 : Int), ((List.replicate (8 : Nat) (0 : Int)), (([] : List I2), (([] : List Bool), (([] : List I2), ())))))))))))) fun (x18 : PT) =>
  (Option.bind (d155 x0 ()) fun (x19 : (((List (Int × ((Option Nat) × Unit))) × Unit) × Unit)) =>
  (lt (Go.IntKind.wrap Go.IntKind.i64 (x15.2.1 + (1 : Int))) fun (x20 : Int) =>
  (Option.bind (d153 x0 (x19.1.1, (x18, (x20, ())))) fun (x21 : (((Option I2) × Unit) × Unit)) =>
  (lt (Bool.not (Option.isNone x21.1.1)) fun (x22 : Bool) =>
  (if (x22 = Bool.true) then
  (Option.some ((x21.1.1, ()), ()))
  else (x17 ((x15.1.1, ()), (x15.2.2.1, (x15.2.2.2.1, (x15.2.1, ())))))))))))
  else (Option.none))))
  else (x13 ((x15.1.1, ()), ()))))))
def d135_K10 (x0 : Nat) : (((((List PT) × ((List (Int × (Int × (Bool × (Int × I2))))) × ((List CH) × Unit))) × ((List SV) × Unit)) × Unit) → (Option (((Option I2) × Unit) × Unit))) :=
  (fun (x10 : ((((List PT) × ((List (Int × (Int × (Bool × (Int × I2))))) × ((List CH) × Unit))) × ((List SV) × Unit)) × Unit)) => (Option.bind (d118 x0 (x10.1.2.1, ())) fun (x11 : ((Int × ((Option I2) × Unit)) × Unit)) =>
  (lt (Bool.not (Option.isNone x11.1.2.1)) fun (x12 : Bool) =>
  (if (x12 = Bool.true) then
  (Option.some ((x11.1.2.1, ()), ()))
  else (shr (d135_K7 x0) (fun (x13 : (((((List PT) × ((List (Int × (Int × (Bool × (Int × I2))))) × ((List CH) × Unit))) × Unit) × Unit) → (Option (((Option I2) × Unit) × Unit)))) => (loopN (d135_L9 x0 x13) x0 ((x10.1.1, ()), ((0 : Int), (x10.1.1.1, ((((List.length x10.1.1.1) : Nat) : Int), ())))))))))))
def d135_K11 (x11 : ((((List SV) × (((List PT) × ((List (Int × (Int × (Bool × (Int × I2))))) × ((List CH) × Unit))) × Unit)) × (Int × ((List PT) × (Int × Unit)))) → (Option (((Option I2) × Unit) × Unit)))) : ((((List SV) × (((List PT) × ((List (Int × (Int × (Bool × (Int × I2))))) × ((List CH) × Unit))) × Unit)) × ((List PT) × I2)) → (Option (((Option I2) × Unit) × Unit))) :=
  (fun (x14 : (((List SV) × (((List PT) × ((List (Int × (Int × (Bool × (Int × I2))))) × ((List CH) × Unit))) × Unit)) × ((List PT) × I2))) => (x11 ((x14.1.1, (x14.1.2.1, ())), ((Go.IntKind.wrap Go.IntKind.i64 (x14.2.2.2.1 + (1 : Int))), (x14.2.1, (x14.2.2.1, ()))))))
def d135_L12 (x0 : Nat) (x10 : (((((List PT) × ((List (Int × (Int × (Bool × (Int × I2))))) × ((List CH) × Unit))) × ((List SV) × Unit)) × Unit) → (Option (((Option I2) × Unit) × Unit)))) : (((((List SV) × (((List PT) × ((List (Int × (Int × (Bool × (Int × I2))))) × ((List CH) × Unit))) × Unit)) × (Int × ((List PT) × (Int × Unit)))) → (Option (((Option I2) × Unit) × Unit))) → ((((List SV) × (((List PT) × ((List (Int × (Int × (Bool × (Int × I2))))) × ((List CH) × Unit))) × Unit)) × (Int × ((List PT) × (Int × Unit)))) → (Option (((Option I2) × Unit) × Unit)))) :=
  (fun (x11 : ((((List SV) × (((List PT) × ((List (Int × (Int × (Bool × (Int × I2))))) × ((List CH) × Unit))) × Unit)) × (Int × ((List PT) × (Int × Unit)))) → (Option (((Option I2) × Unit) × Unit)))) => (fun (x12 : (((List SV) × (((List PT) × ((List (Int × (Int × (Bool × (Int × I2))))) × ((List CH) × Unit))) × Unit)) × (Int × ((List PT) × (Int × Unit))))) => (lt (Decidable.decide (x12.2.1 < x12.2.2.2.1)) fun (x13 : Bool) =>
  (if (x13 = Bool.true) then
  (shr (d135_K11 x11) (fun (x14 : ((((List SV) × (((List PT) × ((List (Int × (Int × (Bool × (Int × I2))))) × ((List CH) × Unit))) × Unit)) × ((List PT) × I2)) → (Option (((Option I2) × Unit) × Unit)))) => (if (((Decidable.decide ((0 : Int) ≤ x12.2.1)) && (Decidable.decide (x12.2.1 < (((List.length x12.2.2.1) : Nat) : Int)))) = Bool.true) then
  (lt (List.getD x12.2.2.1 (Int.toNat x12.2.1) (((0 : Int), ((0 : Int), ((0 : Int), ((0 : Int), ())))), ((0 : Int), ((0 : Int), (([] : List Int), (([] : List IS), (([] : List PC), ((0 : Int), ((List.replicate (8 : Nat) (0 : Int)), (([] : List I2), (([] : List Bool), (([] : List I2), ())))))))))))) fun (x15 : PT) =>
  (lt (List.replicate (8 : Nat) (0 : Int)) fun (x16 : (List Int)) =>
  (Option.bind (d154 x0 ()) fun (x17 : (((List (Int × ((Option Nat) × Unit))) × Unit) × Unit)) =>
  (lt (Go.IntKind.wrap Go.IntKind.i64 (x12.2.1 + (1 : Int))) fun (x18 : Int) =>
  (Option.bind (d153 x0 (x17.1.1, (x15, (x18, ())))) fun (x19 : (((Option I2) × Unit) × Unit)) =>
  (lt (Bool.not (Option.isNone x19.1.1)) fun (x20 : Bool) =>
  (if (x20 = Bool.true) then
  (Option.some ((x19.1.1, ()), ()))
  else (lt (x15.1 :: ([] : List SV)) fun (x21 : (List SV)) =>
  (if ((Go.Lift.appFits (List.length x12.1.1) (List.length x21) (32 : Nat)) = Bool.true) then
  (x14 (((x12.1.1 ++ x21), (x12.1.2.1, ())), (x12.2.2.1, (x12.2.2.2.1, (x12.2.1, ())))))
  else (Option.none))))))))))
  else (Option.none))))
  else (x10 ((x12.1.2.1, (x12.1.1, ())), ()))))))
def d135 : (Nat → ((((List PT) × ((List (Int × (Int × (Bool × (Int × I2))))) × ((List CH) × Unit))) × Unit) → (Option (((Option I2) × Unit) × Unit)))) :=
  (fun (x0 : Nat) => (fun (x1 : (((List PT) × ((List (Int × (Int × (Bool × (Int × I2))))) × ((List CH) × Unit))) × Unit)) => (lt (((List.length x1.1.1) : Nat) : Int) fun (x2 : Int) =>
  (lt (Decidable.decide (x2 > (32 : Int))) fun (x3 : Bool) =>
  (lt (((List.length x1.1.2.1) : Nat) : Int) fun (x4 : Int) =>
  (lt (Decidable.decide (x4 > (64 : Int))) fun (x5 : Bool) =>
  (lt (if (x3 = Bool.true) then
  Bool.true
  else x5) fun (x6 : Bool) =>
  (lt (((List.length x1.1.2.2.1) : Nat) : Int) fun (x7 : Int) =>
  (lt (Decidable.decide (x7 > (64 : Int))) fun (x8 : Bool) =>
  (lt (if (x6 = Bool.true) then
  Bool.true
  else x8) fun (x9 : Bool) =>
  (if (x9 = Bool.true) then
  (Option.some (((Option.some ((100 : Int), ((0 : Int), ()))), ()), ()))
  else (shr (d135_K10 x0) (fun (x10 : (((((List PT) × ((List (Int × (Int × (Bool × (Int × I2))))) × ((List CH) × Unit))) × ((List SV) × Unit)) × Unit) → (Option (((Option I2) × Unit) × Unit)))) => (loopN (d135_L12 x0 x10) x0 ((([] : List SV), (x1.1, ())), ((0 : Int), (x1.1.1, ((((List.length x1.1.1) : Nat) : Int), ()))))))))))))))))))
theorem k135 : c_fn Tryz.prog ⟨[(154, ⟨s154, d154⟩), (153, ⟨s153, d153⟩), (118, ⟨s118, d118⟩), (155, ⟨s155, d155⟩), (156, ⟨s156, d156⟩), (157, ⟨s157, d157⟩)], ks0⟩ Tryz.f135 s135 h135 = some d135 := by kernel_rfl
/-- bulkhead/check.face -/
def s119 : Sig := ⟨[((.ifc 205 (.ptr 207 kI2)), .val)], [((.int .i64), .val), ((.int .i64), .val)]⟩
def d119 (_ : Nat) (x : Option (Int × (Int × Unit)) × Unit) : Option ((Int × (Int × Unit)) × Unit) := some (match x.1 with | some y => ((y.1, (y.2.1, ())), ()) | none => ((0, (0, ())), ()))
/-- bulkhead/check.Check -/
def s96 : Sig := ⟨[((.pair (.sl 64 kPT) (.pair (.sl 41 (.pair (.int .i64) (.pair (.int .i64) (.pair .bool (.pair (.int .i64) kI2))))) (.pair (.sl 34 kCH) .unit))), .val)], [((.int .i64), .val), ((.int .i64), .val)]⟩
 def h96 : Hint := (.seq .leaf
   (.seq .leaf
   .leaf))
def d96 : (Nat → ((((List PT) × ((List (Int × (Int × (Bool × (Int × I2))))) × ((List CH) × Unit))) × Unit) → (Option (I2 × Unit)))) :=
  (fun (x0 : Nat) => (fun (x1 : (((List PT) × ((List (Int × (Int × (Bool × (Int × I2))))) × ((List CH) × Unit))) × Unit)) => (Option.bind (d135 x0 (x1.1, ())) fun (x2 : (((Option I2) × Unit) × Unit)) =>
  (Option.bind (d119 x0 (x2.1.1, ())) fun (x3 : (I2 × Unit)) =>
  (Option.some ((x3.1.1, (x3.1.2.1, ())), ()))))))
theorem k96 : c_fn Tryz.prog ⟨[(135, ⟨s135, d135⟩), (119, ⟨s119, d119⟩)], ks0⟩ Tryz.f96 s96 h96 = some d96 := by kernel_rfl
/-- bulkhead/age.of[int] -/
def s43 : Sig := ⟨[((.pair (.sl 64 kPT) (.pair (.sl 41 (.pair (.int .i64) (.pair (.int .i64) (.pair .bool (.pair (.int .i64) kI2))))) (.pair (.sl 34 kCH) .unit))), .val), ((.int .i64), .val), ((.int .i64), .val), ((.fn 44 (.pair (.ptr 3 (.int .i64)) .unit)), .val)], [((.int .i64), .val), ((.int .i64), .val)]⟩
 def h43 : Hint := (.seq .leaf
   (.seq .leaf
   (.seq (.seq .leaf
   (.seq .leaf
   (.cond none
     (.seq .leaf
     .leaf)
     .leaf)))
   (.seq (.seq .leaf
   (.cond none
     (.seq .leaf
     .leaf)
     .leaf))
   (.seq .leaf
   (.seq (.seq .leaf
   (.cond none
     (.seq .leaf
     .leaf)
     .leaf))
   (.seq .leaf
   .leaf)))))))
def d43 : (Nat → ((((List PT) × ((List (Int × (Int × (Bool × (Int × I2))))) × ((List CH) × Unit))) × (Int × (Int × ((Int × Unit) × Unit)))) → (Option (I2 × Unit)))) :=
  (fun (x0 : Nat) => (fun (x1 : (((List PT) × ((List (Int × (Int × (Bool × (Int × I2))))) × ((List CH) × Unit))) × (Int × (Int × ((Int × Unit) × Unit))))) => (Option.bind (d96 x0 (x1.1, ())) fun (x2 : (I2 × Unit)) =>
  (lt (x2.1.1 != (0 : Int)) fun (x3 : Bool) =>
  (if (x3 = Bool.true) then
  (Option.some (((0 : Int), (x2.1.1, ())), ()))
  else (lt (Decidable.decide (x1.2.1 < (1 : Int))) fun (x4 : Bool) =>
  (lt (((List.length x1.1.2.2.1) : Nat) : Int) fun (x5 : Int) =>
  (lt (Decidable.decide (x1.2.1 > x5)) fun (x6 : Bool) =>
  (lt (if (x4 = Bool.true) then
  Bool.true
  else x6) fun (x7 : Bool) =>
  (if (x7 = Bool.true) then
  (Option.some (((0 : Int), ((2 : Int), ())), ()))
  else (lt (Go.IntKind.wrap Go.IntKind.i64 (x1.2.1 - (1 : Int))) fun (x8 : Int) =>
  (if (((Decidable.decide ((0 : Int) ≤ x8)) && (Decidable.decide (x8 < (((List.length x1.1.2.2.1) : Nat) : Int)))) = Bool.true) then
  (lt (List.getD x1.1.2.2.1 (Int.toNat x8) ((0 : Int), ((0 : Int), (([] : List Int), ((0 : Int), ((0 : Int), ())))))) fun (x9 : CH) =>
  (lt (x9.1 != x1.2.2.1) fun (x10 : Bool) =>
  (lt (x1.2.2.1 == (1 : Int)) fun (x11 : Bool) =>
  (lt (x9.2.1 == (0 : Int)) fun (x12 : Bool) =>
  (lt (if (x11 = Bool.true) then
  x12
  else Bool.false) fun (x13 : Bool) =>
  (lt (if (x10 = Bool.true) then
  Bool.true
  else x13) fun (x14 : Bool) =>
  (if (x14 = Bool.true) then
  (Option.some (((0 : Int), ((2 : Int), ())), ()))
  else (Option.bind (d44 x0 (x9, (x1.2.2.2.1.1, ()))) fun (x15 : (I2 × Unit)) =>
  (Option.some ((x15.1.1, (x15.1.2.1, ())), ()))))))))))
  else (Option.none)))))))))))))
theorem k43 : c_fn Tryz.prog ⟨[(96, ⟨s96, d96⟩), (44, ⟨s44, d44⟩)], ks0⟩ Tryz.f43 s43 h43 = some d43 := by kernel_rfl
/-- bulkhead/num.NextAt -/
def s121 : Sig := ⟨[((.int .i64), .val), ((.int .i64), .val), ((.int .i64), .val)], [((.int .i64), .val), (.bool, .val)]⟩
 def h121 : Hint := (.seq .leaf
   (.seq (.seq .leaf
   (.cond none
     (.seq .leaf
     .leaf)
     .leaf))
   (.seq (.seq .leaf
   (.cond none
     (.seq .leaf
     .leaf)
     .leaf))
   (.seq .leaf
   (.seq (.seq .leaf
   (.cond none
     (.seq .leaf
     .leaf)
     .leaf))
   (.seq .leaf
   (.seq .leaf
   .leaf)))))))
def d121 : (Nat → ((Int × I2) → (Option ((Int × (Bool × Unit)) × Unit)))) :=
  (fun (x0 : Nat) => (fun (x1 : (Int × I2)) => (lt (Decidable.decide (x1.2.1 < (1 : Int))) fun (x2 : Bool) =>
  (lt (Decidable.decide (x1.1 < (0 : Int))) fun (x3 : Bool) =>
  (lt (if (x2 = Bool.true) then
  Bool.true
  else x3) fun (x4 : Bool) =>
  (if (x4 = Bool.true) then
  (Option.some (((0 : Int), (Bool.false, ())), ()))
  else (lt (Decidable.decide (x1.2.2.1 ≤ x1.1)) fun (x5 : Bool) =>
  (if (x5 = Bool.true) then
  (Option.some ((x1.1, (Bool.true, ())), ()))
  else (lt (Go.IntKind.wrap Go.IntKind.i64 (x1.2.2.1 - x1.1)) fun (x6 : Int) =>
  (if ((Bool.not (x1.2.1 == (0 : Int))) = Bool.true) then
  (lt (Int.tmod x6 x1.2.1) fun (x7 : Int) =>
  (lt (x7 == (0 : Int)) fun (x8 : Bool) =>
  (if (x8 = Bool.true) then
  (Option.some ((x1.2.2.1, (Bool.true, ())), ()))
  else (lt (Go.IntKind.wrap Go.IntKind.i64 (x1.2.2.1 - x7)) fun (x9 : Int) =>
  (lt (Go.IntKind.wrap Go.IntKind.i64 (x9 + x1.2.1)) fun (x10 : Int) =>
  (lt (if ((0 : Int) > x10) then
  (0 : Int)
  else x10) fun (x11 : Int) =>
  (Option.some ((x11, ((Decidable.decide (x10 > x1.2.2.1)), ())), ()))))))))
  else (Option.none)))))))))))
theorem k121 : c_fn Tryz.prog ⟨[], ks0⟩ Tryz.f121 s121 h121 = some d121 := by kernel_rfl
/-- bulkhead/num.Count -/
def s106 : Sig := ⟨[((.int .i64), .val), ((.int .i64), .val), ((.int .i64), .val), ((.int .i64), .val)], [((.int .i64), .val), (.bool, .val)]⟩
 def h106 : Hint := (.seq .leaf
   (.seq (.seq .leaf
   (.cond none
     (.seq .leaf
     .leaf)
     .leaf))
   (.seq .leaf
   (.seq (.seq .leaf
   (.cond none
     (.seq .leaf
     .leaf)
     .leaf))
   (.seq .leaf
   .leaf)))))
def d106 : (Nat → (SV → (Option ((Int × (Bool × Unit)) × Unit)))) :=
  (fun (x0 : Nat) => (fun (x1 : SV) => (lt (Decidable.decide (x1.2.1 < (1 : Int))) fun (x2 : Bool) =>
  (lt (Decidable.decide (x1.1 < (0 : Int))) fun (x3 : Bool) =>
  (lt (if (x2 = Bool.true) then
  Bool.true
  else x3) fun (x4 : Bool) =>
  (if (x4 = Bool.true) then
  (Option.some (((0 : Int), (Bool.false, ())), ()))
  else (Option.bind (d121 x0 (x1.1, (x1.2.1, (x1.2.2.1, ())))) fun (x5 : ((Int × (Bool × Unit)) × Unit)) =>
  (lt (Bool.not x5.1.2.1) fun (x6 : Bool) =>
  (lt (Decidable.decide (x1.2.2.2.1 ≤ x5.1.1)) fun (x7 : Bool) =>
  (lt (if (x6 = Bool.true) then
  Bool.true
  else x7) fun (x8 : Bool) =>
  (if (x8 = Bool.true) then
  (Option.some (((0 : Int), (Bool.true, ())), ()))
  else (lt (Go.IntKind.wrap Go.IntKind.i64 (x1.2.2.2.1 - (1 : Int))) fun (x9 : Int) =>
  (lt (Go.IntKind.wrap Go.IntKind.i64 (x9 - x5.1.1)) fun (x10 : Int) =>
  (if ((Bool.not (x1.2.1 == (0 : Int))) = Bool.true) then
  (Option.some (((Go.IntKind.wrap Go.IntKind.i64 ((Go.IntKind.wrap Go.IntKind.i64 (Int.tdiv x10 x1.2.1)) + (1 : Int))), (Bool.true, ())), ()))
  else (Option.none)))))))))))))))
theorem k106 : c_fn Tryz.prog ⟨[(121, ⟨s121, d121⟩)], ks0⟩ Tryz.f106 s106 h106 = some d106 := by kernel_rfl
/-- bulkhead/age.rate -/
def s54 : Sig := ⟨[(kCH, .val), ((.int .i64), .val)], [((.int .i64), .val), ((.int .i64), .val)]⟩
 def h54 : Hint := (.seq .leaf
   (.seq (.seq .leaf
   (.cond none
     (.seq .leaf
     .leaf)
     .leaf))
   (.seq .leaf
   (.seq .leaf
   .leaf))))
def d54 : (Nat → ((CH × (Int × Unit)) → (Option (I2 × Unit)))) :=
  (fun (x0 : Nat) => (fun (x1 : (CH × (Int × Unit))) => (lt (Decidable.decide (x1.2.1 < (0 : Int))) fun (x2 : Bool) =>
  (lt (Decidable.decide (x1.2.1 > (1099511627776 : Int))) fun (x3 : Bool) =>
  (lt (if (x2 = Bool.true) then
  Bool.true
  else x3) fun (x4 : Bool) =>
  (if (x4 = Bool.true) then
  (Option.some (((0 : Int), ((2 : Int), ())), ()))
  else (Option.bind (d106 x0 ((0 : Int), (x1.1.2.2.2.2.1, ((0 : Int), (x1.2.1, ()))))) fun (x5 : ((Int × (Bool × Unit)) × Unit)) =>
  (Option.some ((x5.1.1, ((0 : Int), ())), ())))))))))
theorem k54 : c_fn Tryz.prog ⟨[(106, ⟨s106, d106⟩)], ks0⟩ Tryz.f54 s54 h54 = some d54 := by kernel_rfl
/-- bulkhead/age.Rate$1 -/
def s53 : Sig := ⟨[(kCH, .val), ((.ptr 3 (.int .i64)), .val)], [((.int .i64), .val), ((.int .i64), .val)]⟩
 def h53 : Hint := (.seq .leaf
   (.seq .leaf
   .leaf))
def d53 : (Nat → ((CH × (Int × Unit)) → (Option (I2 × Unit)))) :=
  (fun (x0 : Nat) => (fun (x1 : (CH × (Int × Unit))) => (Option.bind (d54 x0 (x1.1, (x1.2.1, ()))) fun (x2 : (I2 × Unit)) =>
  (Option.some ((x2.1.1, (x2.1.2.1, ())), ())))))
theorem k53 : c_fn Tryz.prog ⟨[(54, ⟨s54, d54⟩)], ks0⟩ Tryz.f53 s53 h53 = some d53 := by kernel_rfl
/-- bulkhead/age.of[int] -/
def s43x1 : Sig := ⟨[((.pair (.sl 64 kPT) (.pair (.sl 41 (.pair (.int .i64) (.pair (.int .i64) (.pair .bool (.pair (.int .i64) kI2))))) (.pair (.sl 34 kCH) .unit))), .val), ((.int .i64), .val), ((.int .i64), .val), ((.fn 53 (.pair (.ptr 3 (.int .i64)) .unit)), .val)], [((.int .i64), .val), ((.int .i64), .val)]⟩
 def h43x1 : Hint := (.seq .leaf
   (.seq .leaf
   (.seq (.seq .leaf
   (.seq .leaf
   (.cond none
     (.seq .leaf
     .leaf)
     .leaf)))
   (.seq (.seq .leaf
   (.cond none
     (.seq .leaf
     .leaf)
     .leaf))
   (.seq .leaf
   (.seq (.seq .leaf
   (.cond none
     (.seq .leaf
     .leaf)
     .leaf))
   (.seq .leaf
   .leaf)))))))
def d43x1 : (Nat → ((((List PT) × ((List (Int × (Int × (Bool × (Int × I2))))) × ((List CH) × Unit))) × (Int × (Int × ((Int × Unit) × Unit)))) → (Option (I2 × Unit)))) :=
  (fun (x0 : Nat) => (fun (x1 : (((List PT) × ((List (Int × (Int × (Bool × (Int × I2))))) × ((List CH) × Unit))) × (Int × (Int × ((Int × Unit) × Unit))))) => (Option.bind (d96 x0 (x1.1, ())) fun (x2 : (I2 × Unit)) =>
  (lt (x2.1.1 != (0 : Int)) fun (x3 : Bool) =>
  (if (x3 = Bool.true) then
  (Option.some (((0 : Int), (x2.1.1, ())), ()))
  else (lt (Decidable.decide (x1.2.1 < (1 : Int))) fun (x4 : Bool) =>
  (lt (((List.length x1.1.2.2.1) : Nat) : Int) fun (x5 : Int) =>
  (lt (Decidable.decide (x1.2.1 > x5)) fun (x6 : Bool) =>
  (lt (if (x4 = Bool.true) then
  Bool.true
  else x6) fun (x7 : Bool) =>
  (if (x7 = Bool.true) then
  (Option.some (((0 : Int), ((2 : Int), ())), ()))
  else (lt (Go.IntKind.wrap Go.IntKind.i64 (x1.2.1 - (1 : Int))) fun (x8 : Int) =>
  (if (((Decidable.decide ((0 : Int) ≤ x8)) && (Decidable.decide (x8 < (((List.length x1.1.2.2.1) : Nat) : Int)))) = Bool.true) then
  (lt (List.getD x1.1.2.2.1 (Int.toNat x8) ((0 : Int), ((0 : Int), (([] : List Int), ((0 : Int), ((0 : Int), ())))))) fun (x9 : CH) =>
  (lt (x9.1 != x1.2.2.1) fun (x10 : Bool) =>
  (lt (x1.2.2.1 == (1 : Int)) fun (x11 : Bool) =>
  (lt (x9.2.1 == (0 : Int)) fun (x12 : Bool) =>
  (lt (if (x11 = Bool.true) then
  x12
  else Bool.false) fun (x13 : Bool) =>
  (lt (if (x10 = Bool.true) then
  Bool.true
  else x13) fun (x14 : Bool) =>
  (if (x14 = Bool.true) then
  (Option.some (((0 : Int), ((2 : Int), ())), ()))
  else (Option.bind (d53 x0 (x9, (x1.2.2.2.1.1, ()))) fun (x15 : (I2 × Unit)) =>
  (Option.some ((x15.1.1, (x15.1.2.1, ())), ()))))))))))
  else (Option.none)))))))))))))
theorem k43x1 : c_fn Tryz.prog ⟨[(96, ⟨s96, d96⟩), (53, ⟨s53, d53⟩)], ks0⟩ Tryz.f43 s43x1 h43x1 = some d43x1 := by kernel_rfl
/-- bulkhead/age.Stay$1 -/
def s105 : Sig := ⟨[(kCH, .val), ((.ptr 26 (.pair (.sl 64 kPT) (.pair (.sl 41 (.pair (.int .i64) (.pair (.int .i64) (.pair .bool (.pair (.int .i64) kI2))))) (.pair (.sl 34 kCH) .unit)))), .val)], [((.int .i64), .val), ((.int .i64), .val)]⟩
 def h105 : Hint := (.seq .leaf
   (.seq .leaf
   .leaf))
def d105 : (Nat → ((CH × (((List PT) × ((List (Int × (Int × (Bool × (Int × I2))))) × ((List CH) × Unit))) × Unit)) → (Option (I2 × Unit)))) :=
  (fun (x0 : Nat) => (fun (x1 : (CH × (((List PT) × ((List (Int × (Int × (Bool × (Int × I2))))) × ((List CH) × Unit))) × Unit))) => (lt (Go.IntKind.wrap Go.IntKind.i64 (x1.1.2.1 - (1 : Int))) fun (x2 : Int) =>
  (if (((Decidable.decide ((0 : Int) ≤ x2)) && (Decidable.decide (x2 < (((List.length x1.2.1.2.1) : Nat) : Int)))) = Bool.true) then
  (Option.some (((Go.IntKind.wrap Go.IntKind.i64 ((List.getD x1.2.1.2.1 (Int.toNat x2) ((0 : Int), ((0 : Int), (Bool.false, ((0 : Int), ((0 : Int), ((0 : Int), ()))))))).2.2.2.2.1 * x1.1.2.2.2.2.1)), ((0 : Int), ())), ()))
  else (Option.none)))))
theorem k105 : c_fn Tryz.prog ⟨[], ks0⟩ Tryz.f105 s105 h105 = some d105 := by kernel_rfl
/-- bulkhead/age.of[int] -/
def s43x2 : Sig := ⟨[((.pair (.sl 64 kPT) (.pair (.sl 41 (.pair (.int .i64) (.pair (.int .i64) (.pair .bool (.pair (.int .i64) kI2))))) (.pair (.sl 34 kCH) .unit))), .val), ((.int .i64), .val), ((.int .i64), .val), ((.fn 105 (.pair (.ptr 26 (.pair (.sl 64 kPT) (.pair (.sl 41 (.pair (.int .i64) (.pair (.int .i64) (.pair .bool (.pair (.int .i64) kI2))))) (.pair (.sl 34 kCH) .unit)))) .unit)), .val)], [((.int .i64), .val), ((.int .i64), .val)]⟩
 def h43x2 : Hint := (.seq .leaf
   (.seq .leaf
   (.seq (.seq .leaf
   (.seq .leaf
   (.cond none
     (.seq .leaf
     .leaf)
     .leaf)))
   (.seq (.seq .leaf
   (.cond none
     (.seq .leaf
     .leaf)
     .leaf))
   (.seq .leaf
   (.seq (.seq .leaf
   (.cond none
     (.seq .leaf
     .leaf)
     .leaf))
   (.seq .leaf
   .leaf)))))))
def d43x2 : (Nat → ((((List PT) × ((List (Int × (Int × (Bool × (Int × I2))))) × ((List CH) × Unit))) × (Int × (Int × ((((List PT) × ((List (Int × (Int × (Bool × (Int × I2))))) × ((List CH) × Unit))) × Unit) × Unit)))) → (Option (I2 × Unit)))) :=
  (fun (x0 : Nat) => (fun (x1 : (((List PT) × ((List (Int × (Int × (Bool × (Int × I2))))) × ((List CH) × Unit))) × (Int × (Int × ((((List PT) × ((List (Int × (Int × (Bool × (Int × I2))))) × ((List CH) × Unit))) × Unit) × Unit))))) => (Option.bind (d96 x0 (x1.1, ())) fun (x2 : (I2 × Unit)) =>
  (lt (x2.1.1 != (0 : Int)) fun (x3 : Bool) =>
  (if (x3 = Bool.true) then
  (Option.some (((0 : Int), (x2.1.1, ())), ()))
  else (lt (Decidable.decide (x1.2.1 < (1 : Int))) fun (x4 : Bool) =>
  (lt (((List.length x1.1.2.2.1) : Nat) : Int) fun (x5 : Int) =>
  (lt (Decidable.decide (x1.2.1 > x5)) fun (x6 : Bool) =>
  (lt (if (x4 = Bool.true) then
  Bool.true
  else x6) fun (x7 : Bool) =>
  (if (x7 = Bool.true) then
  (Option.some (((0 : Int), ((2 : Int), ())), ()))
  else (lt (Go.IntKind.wrap Go.IntKind.i64 (x1.2.1 - (1 : Int))) fun (x8 : Int) =>
  (if (((Decidable.decide ((0 : Int) ≤ x8)) && (Decidable.decide (x8 < (((List.length x1.1.2.2.1) : Nat) : Int)))) = Bool.true) then
  (lt (List.getD x1.1.2.2.1 (Int.toNat x8) ((0 : Int), ((0 : Int), (([] : List Int), ((0 : Int), ((0 : Int), ())))))) fun (x9 : CH) =>
  (lt (x9.1 != x1.2.2.1) fun (x10 : Bool) =>
  (lt (x1.2.2.1 == (1 : Int)) fun (x11 : Bool) =>
  (lt (x9.2.1 == (0 : Int)) fun (x12 : Bool) =>
  (lt (if (x11 = Bool.true) then
  x12
  else Bool.false) fun (x13 : Bool) =>
  (lt (if (x10 = Bool.true) then
  Bool.true
  else x13) fun (x14 : Bool) =>
  (if (x14 = Bool.true) then
  (Option.some (((0 : Int), ((2 : Int), ())), ()))
  else (Option.bind (d105 x0 (x9, (x1.2.2.2.1.1, ()))) fun (x15 : (I2 × Unit)) =>
  (Option.some ((x15.1.1, (x15.1.2.1, ())), ()))))))))))
  else (Option.none)))))))))))))
theorem k43x2 : c_fn Tryz.prog ⟨[(96, ⟨s96, d96⟩), (105, ⟨s105, d105⟩)], ks0⟩ Tryz.f43 s43x2 h43x2 = some d43x2 := by kernel_rfl
/-- bulkhead/age.Oldest -/
def s13 : Sig := ⟨[((.pair (.sl 64 kPT) (.pair (.sl 41 (.pair (.int .i64) (.pair (.int .i64) (.pair .bool (.pair (.int .i64) kI2))))) (.pair (.sl 34 kCH) .unit))), .val), ((.int .i64), .val), ((.int .i64), .val)], [((.int .i64), .val), ((.int .i64), .val)]⟩
 def h13 : Hint := (.seq .leaf
   (.seq (.pre ⟨[((.ptr 26 (.pair (.sl 64 kPT) (.pair (.sl 41 (.pair (.int .i64) (.pair (.int .i64) (.pair .bool (.pair (.int .i64) kI2))))) (.pair (.sl 34 kCH) .unit)))), (.ow .sh), (3, 0))], [((5, 0), (.val (.ptr 3 (.int .i64)))), ((1, 0), (.val (.int .i64))), ((3, 0), (.own 0))]⟩ .leaf)
   .leaf))
def d13 : (Nat → ((((List PT) × ((List (Int × (Int × (Bool × (Int × I2))))) × ((List CH) × Unit))) × I2) → (Option (I2 × Unit)))) :=
  (fun (x0 : Nat) => (fun (x1 : (((List PT) × ((List (Int × (Int × (Bool × (Int × I2))))) × ((List CH) × Unit))) × I2)) => (Option.bind (d43 x0 (x1.1, (x1.2.1, ((0 : Int), ((x1.2.2.1, ()), ()))))) fun (x2 : (I2 × Unit)) =>
  (Option.some ((x2.1.1, (x2.1.2.1, ())), ())))))
theorem k13 : c_fn Tryz.prog ⟨[(44, ⟨s44, d44⟩), (43, ⟨s43x2, d43x2⟩), (43, ⟨s43x1, d43x1⟩), (43, ⟨s43, d43⟩)], ks0⟩ Tryz.f13 s13 h13 = some d13 := by kernel_rfl
/-- bulkhead/bulkheadref10.within -/
def s97 : Sig := ⟨[((.int .i64), .val), ((.int .i64), .val), ((.int .i64), .val)], [(.bool, .val)]⟩
 def h97 : Hint := (.seq .leaf
   (.seq .leaf
   .leaf))
def d97 : (Nat → ((Int × I2) → (Option ((Bool × Unit) × Unit)))) :=
  (fun (x0 : Nat) => (fun (x1 : (Int × I2)) => (lt (Decidable.decide (x1.1 ≥ x1.2.1)) fun (x2 : Bool) =>
  (lt (Decidable.decide (x1.1 ≤ x1.2.2.1)) fun (x3 : Bool) =>
  (Option.some (((if (x2 = Bool.true) then
  x3
  else Bool.false), ()), ()))))))
theorem k97 : c_fn Tryz.prog ⟨[], ks0⟩ Tryz.f97 s97 h97 = some d97 := by kernel_rfl
/-- bulkhead/bulkheadref10.counts -/
def s45 : Sig := ⟨[(kPT, .val)], [(.bool, .val)]⟩
 def h45 : Hint := (.seq .leaf
   (.seq .leaf
   (.seq .leaf
   .leaf)))
def d45 : (Nat → ((PT × Unit) → (Option ((Bool × Unit) × Unit)))) :=
  (fun (x0 : Nat) => (fun (x1 : (PT × Unit)) => (lt (((List.length x1.1.2.2.2.2.2.2.2.2.1) : Nat) : Int) fun (x2 : Int) =>
  (lt (Decidable.decide (x2 ≤ (8 : Int))) fun (x3 : Bool) =>
  (lt (((List.length x1.1.2.2.2.2.2.2.2.2.2.1) : Nat) : Int) fun (x4 : Int) =>
  (lt (Decidable.decide (x4 ≤ (8 : Int))) fun (x5 : Bool) =>
  (lt (if (x3 = Bool.true) then
  x5
  else Bool.false) fun (x6 : Bool) =>
  (lt (((List.length x1.1.2.2.2.2.2.2.2.2.2.2.1) : Nat) : Int) fun (x7 : Int) =>
  (lt (Decidable.decide (x7 ≤ (8 : Int))) fun (x8 : Bool) =>
  (lt (if (x6 = Bool.true) then
  x8
  else Bool.false) fun (x9 : Bool) =>
  (Option.bind (if (((x9 == Bool.true) && Bool.true) = Bool.true) then
  (d97 x0 (x1.1.2.1, ((0 : Int), ((4096 : Int), ()))))
  else (Option.some ((Bool.false, ()), ()))) fun (x10 : ((Bool × Unit) × Unit)) =>
  (lt (if (x9 = Bool.true) then
  x10.1.1
  else Bool.false) fun (x11 : Bool) =>
  (lt (((List.length x1.1.2.2.2.2.1) : Nat) : Int) fun (x12 : Int) =>
  (lt (Decidable.decide (x12 ≤ (1024 : Int))) fun (x13 : Bool) =>
  (lt (if (x11 = Bool.true) then
  x13
  else Bool.false) fun (x14 : Bool) =>
  (lt (((List.length x1.1.2.2.2.2.2.1) : Nat) : Int) fun (x15 : Int) =>
  (Option.bind (if (((x14 == Bool.true) && Bool.true) = Bool.true) then
  (d97 x0 (x15, ((1 : Int), ((16 : Int), ()))))
  else (Option.some ((Bool.false, ()), ()))) fun (x16 : ((Bool × Unit) × Unit)) =>
  (Option.some (((if (x14 = Bool.true) then
  x16.1.1
  else Bool.false), ()), ())))))))))))))))))))
theorem k45 : c_fn Tryz.prog ⟨[(97, ⟨s97, d97⟩)], ks0⟩ Tryz.f45 s45 h45 = some d45 := by kernel_rfl
/-- bulkhead/bulkheadref10.Of -/
def s47 : Sig := ⟨[((.pair (.sl 64 kPT) (.pair (.sl 41 (.pair (.int .i64) (.pair (.int .i64) (.pair .bool (.pair (.int .i64) kI2))))) (.pair (.sl 34 kCH) .unit))), .val)], [((.sl 55 kSV), (.own (.ow .sh)))]⟩
 def h47 : Hint := (.seq .leaf
   (.seq .leaf
   (.seq (.seq .leaf
   (.block ⟨[((.sl 55 kSV), (.ow .sh), (3, 0))], [((3, 0), (.own 0))]⟩ true
     (.loop ⟨[((.ptr 26 (.pair (.sl 64 kPT) (.pair (.sl 41 (.pair (.int .i64) (.pair (.int .i64) (.pair .bool (.pair (.int .i64) kI2))))) (.pair (.sl 34 kCH) .unit)))), (.ow .sh), (1, 0)), ((.sl 55 kSV), (.ow .sh), (3, 0))], [((4, 0), (.val (.int .i64))), ((1, 0), (.own 0)), ((3, 0), (.own 1))]⟩
       (.seq (.seq .leaf
       (.cond none
         .leaf
         .leaf))
       (.seq (.block ⟨[((.ptr 26 (.pair (.sl 64 kPT) (.pair (.sl 41 (.pair (.int .i64) (.pair (.int .i64) (.pair .bool (.pair (.int .i64) kI2))))) (.pair (.sl 34 kCH) .unit)))), (.ow .sh), (1, 0)), ((.sl 55 kSV), (.ow .sh), (3, 0))], [((1, 0), (.own 0)), ((3, 0), (.own 1)), ((4, 0), (.val (.int .i64)))]⟩ true
         .leaf)
       .leaf)))))
   (.seq .leaf
   .leaf))))
def d47_K1  : ((((List SV) × Unit) × Unit) → (Option (((List SV) × Unit) × Unit))) :=
  (fun (x2 : (((List SV) × Unit) × Unit)) => (Option.some ((x2.1.1, ()), ())))
def d47_K2 (x3 : (((((List PT) × ((List (Int × (Int × (Bool × (Int × I2))))) × ((List CH) × Unit))) × ((List SV) × Unit)) × (Int × Unit)) → (Option (((List SV) × Unit) × Unit)))) : (((((List PT) × ((List (Int × (Int × (Bool × (Int × I2))))) × ((List CH) × Unit))) × ((List SV) × Unit)) × (Int × Unit)) → (Option (((List SV) × Unit) × Unit))) :=
  (fun (x7 : ((((List PT) × ((List (Int × (Int × (Bool × (Int × I2))))) × ((List CH) × Unit))) × ((List SV) × Unit)) × (Int × Unit))) => (x3 ((x7.1.1, (x7.1.2.1, ())), ((Go.IntKind.wrap Go.IntKind.i64 (x7.2.1 + (1 : Int))), ()))))
def d47_L3 (x2 : ((((List SV) × Unit) × Unit) → (Option (((List SV) × Unit) × Unit)))) : ((((((List PT) × ((List (Int × (Int × (Bool × (Int × I2))))) × ((List CH) × Unit))) × ((List SV) × Unit)) × (Int × Unit)) → (Option (((List SV) × Unit) × Unit))) → (((((List PT) × ((List (Int × (Int × (Bool × (Int × I2))))) × ((List CH) × Unit))) × ((List SV) × Unit)) × (Int × Unit)) → (Option (((List SV) × Unit) × Unit)))) :=
  (fun (x3 : (((((List PT) × ((List (Int × (Int × (Bool × (Int × I2))))) × ((List CH) × Unit))) × ((List SV) × Unit)) × (Int × Unit)) → (Option (((List SV) × Unit) × Unit)))) => (fun (x4 : ((((List PT) × ((List (Int × (Int × (Bool × (Int × I2))))) × ((List CH) × Unit))) × ((List SV) × Unit)) × (Int × Unit))) => (lt (((List.length x4.1.1.1) : Nat) : Int) fun (x5 : Int) =>
  (lt (Decidable.decide (x4.2.1 < x5)) fun (x6 : Bool) =>
  (if (x6 = Bool.true) then
  (shr (d47_K2 x3) (fun (x7 : (((((List PT) × ((List (Int × (Int × (Bool × (Int × I2))))) × ((List CH) × Unit))) × ((List SV) × Unit)) × (Int × Unit)) → (Option (((List SV) × Unit) × Unit)))) => (if (((Decidable.decide ((0 : Int) ≤ x4.2.1)) && (Decidable.decide (x4.2.1 < (((List.length x4.1.1.1) : Nat) : Int)))) = Bool.true) then
  (lt (List.getD x4.1.1.1 (Int.toNat x4.2.1) (((0 : Int), ((0 : Int), ((0 : Int), ((0 : Int), ())))), ((0 : Int), ((0 : Int), (([] : List Int), (([] : List IS), (([] : List PC), ((0 : Int), ((List.replicate (8 : Nat) (0 : Int)), (([] : List I2), (([] : List Bool), (([] : List I2), ())))))))))))).1 fun (x8 : SV) =>
  (lt (x8 :: ([] : List SV)) fun (x9 : (List SV)) =>
  (if ((Go.Lift.appFits (List.length x4.1.2.1) (List.length x9) (32 : Nat)) = Bool.true) then
  (x7 ((x4.1.1, ((x4.1.2.1 ++ x9), ())), (x4.2.1, ())))
  else (Option.none))))
  else (Option.none))))
  else (x2 ((x4.1.2.1, ()), ())))))))
def d47 : (Nat → ((((List PT) × ((List (Int × (Int × (Bool × (Int × I2))))) × ((List CH) × Unit))) × Unit) → (Option (((List SV) × Unit) × Unit)))) :=
  (fun (x0 : Nat) => (fun (x1 : (((List PT) × ((List (Int × (Int × (Bool × (Int × I2))))) × ((List CH) × Unit))) × Unit)) => (shr d47_K1 (fun (x2 : ((((List SV) × Unit) × Unit) → (Option (((List SV) × Unit) × Unit)))) => (loopN (d47_L3 x2) x0 ((x1.1, (([] : List SV), ())), ((0 : Int), ())))))))
theorem k47 : c_fn Tryz.prog ⟨[], ks0⟩ Tryz.f47 s47 h47 = some d47 := by kernel_rfl
/-- bulkhead/bulkheadref10.server -/
def s98 : Sig := ⟨[((.sl 55 kSV), .val), ((.int .i64), .val)], [(.bool, .val)]⟩
 def h98 : Hint := (.seq .leaf
   (.seq .leaf
   (.seq (.seq .leaf
   (.block ⟨[((.ptr 55 kSV), (.ow .sh), (5, 0))], [((5, 0), (.own 0))]⟩ true
     (.loop ⟨[((.ptr 55 kSV), (.ow .sh), (5, 0))], [((6, 0), (.val (.int .i64))), ((5, 0), (.own 0)), ((0, 0), (.val (.sl 55 kSV))), ((1, 0), (.val (.int .i64)))]⟩
       (.seq (.seq .leaf
       (.cond none
         .leaf
         .leaf))
       (.seq (.block ⟨[((.ptr 55 kSV), (.ow .sh), (5, 0))], [((5, 0), (.own 0)), ((0, 0), (.val (.sl 55 kSV))), ((1, 0), (.val (.int .i64))), ((6, 0), (.val (.int .i64)))]⟩ true
         (.seq .leaf
         (.cond none
           (.seq .leaf
           .leaf)
           .leaf)))
       .leaf)))))
   (.seq .leaf
   (.seq .leaf
   .leaf)))))
def d98_K1 (x0 : Nat) : (((SV × Unit) × Unit) → (Option ((Bool × Unit) × Unit))) :=
  (fun (x2 : ((SV × Unit) × Unit)) => (Option.bind (d97 x0 (x2.1.1.1, ((1 : Int), ((1048576 : Int), ())))) fun (x3 : ((Bool × Unit) × Unit)) =>
  (Option.bind (if (((x3.1.1 == Bool.true) && Bool.true) = Bool.true) then
  (d97 x0 (x2.1.1.2.1, ((1 : Int), (x2.1.1.1, ()))))
  else (Option.some ((Bool.false, ()), ()))) fun (x4 : ((Bool × Unit) × Unit)) =>
  (lt (if (x3.1.1 = Bool.true) then
  x4.1.1
  else Bool.false) fun (x5 : Bool) =>
  (lt (Go.IntKind.wrap Go.IntKind.i64 (x2.1.1.1 - (1 : Int))) fun (x6 : Int) =>
  (Option.bind (if (((x5 == Bool.true) && Bool.true) = Bool.true) then
  (d97 x0 (x2.1.1.2.2.1, ((0 : Int), (x6, ()))))
  else (Option.some ((Bool.false, ()), ()))) fun (x7 : ((Bool × Unit) × Unit)) =>
  (lt (if (x5 = Bool.true) then
  x7.1.1
  else Bool.false) fun (x8 : Bool) =>
  (Option.bind (if (((x8 == Bool.true) && Bool.true) = Bool.true) then
  (d97 x0 (x2.1.1.2.2.2.1, ((0 : Int), ((255 : Int), ()))))
  else (Option.some ((Bool.false, ()), ()))) fun (x9 : ((Bool × Unit) × Unit)) =>
  (Option.some (((if (x8 = Bool.true) then
  x9.1.1
  else Bool.false), ()), ()))))))))))
def d98_K2 (x3 : (((SV × Unit) × (Int × ((List SV) × (Int × Unit)))) → (Option ((Bool × Unit) × Unit)))) : (((SV × Unit) × ((List SV) × I2)) → (Option ((Bool × Unit) × Unit))) :=
  (fun (x6 : ((SV × Unit) × ((List SV) × I2))) => (x3 ((x6.1.1, ()), ((Go.IntKind.wrap Go.IntKind.i64 (x6.2.2.2.1 + (1 : Int))), (x6.2.1, (x6.2.2.1, ()))))))
def d98_L3 (x2 : (((SV × Unit) × Unit) → (Option ((Bool × Unit) × Unit)))) : ((((SV × Unit) × (Int × ((List SV) × (Int × Unit)))) → (Option ((Bool × Unit) × Unit))) → (((SV × Unit) × (Int × ((List SV) × (Int × Unit)))) → (Option ((Bool × Unit) × Unit)))) :=
  (fun (x3 : (((SV × Unit) × (Int × ((List SV) × (Int × Unit)))) → (Option ((Bool × Unit) × Unit)))) => (fun (x4 : ((SV × Unit) × (Int × ((List SV) × (Int × Unit))))) => (lt (Decidable.decide (x4.2.1 < x4.2.2.2.1)) fun (x5 : Bool) =>
  (if (x5 = Bool.true) then
  (shr (d98_K2 x3) (fun (x6 : (((SV × Unit) × ((List SV) × I2)) → (Option ((Bool × Unit) × Unit)))) => (if (((Decidable.decide ((0 : Int) ≤ x4.2.1)) && (Decidable.decide (x4.2.1 < (((List.length x4.2.2.1) : Nat) : Int)))) = Bool.true) then
  (lt (List.getD x4.2.2.1 (Int.toNat x4.2.1) ((0 : Int), ((0 : Int), ((0 : Int), ((0 : Int), ()))))).2.2.2.1 fun (x7 : Int) =>
  (lt (x7 == x4.1.1.2.2.2.1) fun (x8 : Bool) =>
  (if (x8 = Bool.true) then
  (Option.some ((Bool.false, ()), ()))
  else (x6 ((x4.1.1, ()), (x4.2.2.1, (x4.2.2.2.1, (x4.2.1, ()))))))))
  else (Option.none))))
  else (x2 ((x4.1.1, ()), ()))))))
def d98 : (Nat → (((List SV) × (Int × Unit)) → (Option ((Bool × Unit) × Unit)))) :=
  (fun (x0 : Nat) => (fun (x1 : ((List SV) × (Int × Unit))) => (if (((Decidable.decide ((0 : Int) ≤ x1.2.1)) && (Decidable.decide (x1.2.1 < (((List.length x1.1) : Nat) : Int)))) = Bool.true) then
  (shr (d98_K1 x0) (fun (x2 : (((SV × Unit) × Unit) → (Option ((Bool × Unit) × Unit)))) => (loopN (d98_L3 x2) x0 (((List.getD x1.1 (Int.toNat x1.2.1) ((0 : Int), ((0 : Int), ((0 : Int), ((0 : Int), ()))))), ()), ((0 : Int), (x1.1, (x1.2.1, ())))))))
  else (Option.none))))
theorem k98 : c_fn Tryz.prog ⟨[(97, ⟨s97, d97⟩)], ks0⟩ Tryz.f98 s98 h98 = some d98 := by kernel_rfl
/-- bulkhead/bulkheadref10.Servers -/
def s46 : Sig := ⟨[((.sl 55 kSV), .val)], [((.int .i64), .val), ((.int .i64), .val)]⟩
 def h46 : Hint := (.seq .leaf
   (.seq (.seq .leaf
   (.cond none
     (.seq .leaf
     .leaf)
     .leaf))
   (.seq (.seq .leaf
   (.block ⟨[], []⟩ true
     (.loop ⟨[], [((4, 0), (.val (.int .i64))), ((0, 0), (.val (.sl 55 kSV)))]⟩
       (.seq (.seq .leaf
       (.cond none
         .leaf
         .leaf))
       (.seq (.block ⟨[], [((0, 0), (.val (.sl 55 kSV))), ((4, 0), (.val (.int .i64)))]⟩ true
         (.seq .leaf
         (.cond none
           (.seq .leaf
           .leaf)
           .leaf)))
       .leaf)))))
   (.seq .leaf
   .leaf))))
def d46_K1  : ((Unit × Unit) → (Option (I2 × Unit))) :=
  (fun (x4 : (Unit × Unit)) => (Option.some (((0 : Int), ((0 : Int), ())), ())))
def d46_K2 (x5 : ((Unit × (Int × ((List SV) × Unit))) → (Option (I2 × Unit)))) : ((Unit × ((List SV) × (Int × Unit))) → (Option (I2 × Unit))) :=
  (fun (x9 : (Unit × ((List SV) × (Int × Unit)))) => (x5 ((), ((Go.IntKind.wrap Go.IntKind.i64 (x9.2.2.1 + (1 : Int))), (x9.2.1, ())))))
def d46_L3 (x0 : Nat) (x4 : ((Unit × Unit) → (Option (I2 × Unit)))) : (((Unit × (Int × ((List SV) × Unit))) → (Option (I2 × Unit))) → ((Unit × (Int × ((List SV) × Unit))) → (Option (I2 × Unit)))) :=
  (fun (x5 : ((Unit × (Int × ((List SV) × Unit))) → (Option (I2 × Unit)))) => (fun (x6 : (Unit × (Int × ((List SV) × Unit)))) => (lt (((List.length x6.2.2.1) : Nat) : Int) fun (x7 : Int) =>
  (lt (Decidable.decide (x6.2.1 < x7)) fun (x8 : Bool) =>
  (if (x8 = Bool.true) then
  (shr (d46_K2 x5) (fun (x9 : ((Unit × ((List SV) × (Int × Unit))) → (Option (I2 × Unit)))) => (Option.bind (d98 x0 (x6.2.2.1, (x6.2.1, ()))) fun (x10 : ((Bool × Unit) × Unit)) =>
  (lt (Bool.not x10.1.1) fun (x11 : Bool) =>
  (if (x11 = Bool.true) then
  (Option.some (((101 : Int), ((Go.IntKind.wrap Go.IntKind.i64 (x6.2.1 + (1 : Int))), ())), ()))
  else (x9 ((), (x6.2.2.1, (x6.2.1, ())))))))))
  else (x4 ((), ())))))))
def d46 : (Nat → (((List SV) × Unit) → (Option (I2 × Unit)))) :=
  (fun (x0 : Nat) => (fun (x1 : ((List SV) × Unit)) => (lt (((List.length x1.1) : Nat) : Int) fun (x2 : Int) =>
  (lt (Decidable.decide (x2 > (32 : Int))) fun (x3 : Bool) =>
  (if (x3 = Bool.true) then
  (Option.some (((100 : Int), ((0 : Int), ())), ()))
  else (shr d46_K1 (fun (x4 : ((Unit × Unit) → (Option (I2 × Unit)))) => (loopN (d46_L3 x0 x4) x0 ((), ((0 : Int), (x1.1, ())))))))))))
theorem k46 : c_fn Tryz.prog ⟨[(98, ⟨s98, d98⟩)], ks0⟩ Tryz.f46 s46 h46 = some d46 := by kernel_rfl
/-- bulkhead/bulkheadref01.away -/
def s207 : Sig := ⟨[((.int .i64), .val)], [((.int .u64), .val)]⟩
 def h207 : Hint := (.seq .leaf
   (.seq (.seq .leaf
   (.cond none
     (.seq .leaf
     .leaf)
     .leaf))
   (.seq .leaf
   .leaf)))
def d207 : (Nat → ((Int × Unit) → (Option ((Int × Unit) × Unit)))) :=
  (fun (x0 : Nat) => (fun (x1 : (Int × Unit)) => (lt (Decidable.decide (x1.1 < (0 : Int))) fun (x2 : Bool) =>
  (if (x2 = Bool.true) then
  (Option.some (((Go.IntKind.wrap Go.IntKind.u64 ((Go.IntKind.wrap Go.IntKind.u64 (Go.IntKind.wrap Go.IntKind.i64 ((0 : Int) - (Go.IntKind.wrap Go.IntKind.i64 (x1.1 + (1 : Int)))))) + (1 : Int))), ()), ()))
  else (Option.some (((Go.IntKind.wrap Go.IntKind.u64 x1.1), ()), ()))))))
theorem k207 : c_fn Tryz.prog ⟨[], ks0⟩ Tryz.f207 s207 h207 = some d207 := by kernel_rfl
/-- bulkhead/bulkheadref01.signed -/
def s208 : Sig := ⟨[(.bool, .val), ((.int .u64), .val)], [((.int .i64), .val), (.bool, .val)]⟩
 def h208 : Hint := (.seq .leaf
   (.seq (.seq .leaf
   (.cond none
     (.seq (.seq .leaf
     (.cond none
       (.seq .leaf
       .leaf)
       .leaf))
     (.seq (.seq .leaf
     (.cond none
       (.seq .leaf
       .leaf)
       .leaf))
     (.seq .leaf
     .leaf)))
     .leaf))
   (.seq (.seq .leaf
   (.cond none
     (.seq .leaf
     .leaf)
     .leaf))
   (.seq .leaf
   .leaf))))
def d208 : (Nat → ((Bool × (Int × Unit)) → (Option ((Int × (Bool × Unit)) × Unit)))) :=
  (fun (x0 : Nat) => (fun (x1 : (Bool × (Int × Unit))) => (if (x1.1 = Bool.true) then
  (lt (Decidable.decide (x1.2.1 > (9223372036854775808 : Int))) fun (x2 : Bool) =>
  (if (x2 = Bool.true) then
  (Option.some (((0 : Int), (Bool.false, ())), ()))
  else (lt (x1.2.1 == (9223372036854775808 : Int)) fun (x3 : Bool) =>
  (if (x3 = Bool.true) then
  (Option.some (((Neg.neg (9223372036854775808 : Int)), (Bool.true, ())), ()))
  else (Option.some (((Go.IntKind.wrap Go.IntKind.i64 ((0 : Int) - (Go.IntKind.wrap Go.IntKind.i64 x1.2.1))), (Bool.true, ())), ()))))))
  else (lt (Decidable.decide (x1.2.1 > (9223372036854775807 : Int))) fun (x2 : Bool) =>
  (if (x2 = Bool.true) then
  (Option.some (((0 : Int), (Bool.false, ())), ()))
  else (Option.some (((Go.IntKind.wrap Go.IntKind.i64 x1.2.1), (Bool.true, ())), ())))))))
theorem k208 : c_fn Tryz.prog ⟨[], ks0⟩ Tryz.f208 s208 h208 = some d208 := by kernel_rfl
/-- bulkhead/bulkheadref01.Gcd -/
def s159 : Sig := ⟨[((.int .i64), .val), ((.int .i64), .val)], [((.int .i64), .val)]⟩
 def h159 : Hint := (.seq .leaf
   (.seq .leaf
   (.seq .leaf
   (.seq (.block ⟨[], [((5, 0), (.val (.int .u64)))]⟩ true
     (.loop ⟨[], [((6, 0), (.val (.int .u64))), ((5, 0), (.val (.int .u64)))]⟩
       (.seq (.seq .leaf
       (.cond none
         .leaf
         .leaf))
       (.block ⟨[], [((6, 0), (.val (.int .u64))), ((5, 0), (.val (.int .u64)))]⟩ true
         (.seq .leaf
         (.seq .leaf
         .leaf))))))
   (.seq .leaf
   (.seq .leaf
   .leaf))))))
def d159_K1 (x0 : Nat) : ((Unit × (Int × Unit)) → (Option ((Int × Unit) × Unit))) :=
  (fun (x4 : (Unit × (Int × Unit))) => (Option.bind (d208 x0 (Bool.false, (x4.2.1, ()))) fun (x5 : ((Int × (Bool × Unit)) × Unit)) =>
  (Option.some ((x5.1.1, ()), ()))))
def d159_K2 (x5 : ((Unit × I2) → (Option ((Int × Unit) × Unit)))) : ((Unit × I2) → (Option ((Int × Unit) × Unit))) :=
  (fun (x8 : (Unit × I2)) => (x5 ((), (x8.2.1, (x8.2.2.1, ())))))
def d159_L3 (x4 : ((Unit × (Int × Unit)) → (Option ((Int × Unit) × Unit)))) : (((Unit × I2) → (Option ((Int × Unit) × Unit))) → ((Unit × I2) → (Option ((Int × Unit) × Unit)))) :=
  (fun (x5 : ((Unit × I2) → (Option ((Int × Unit) × Unit)))) => (fun (x6 : (Unit × I2)) => (lt (x6.2.1 != (0 : Int)) fun (x7 : Bool) =>
  (if (x7 = Bool.true) then
  (shr (d159_K2 x5) (fun (x8 : ((Unit × I2) → (Option ((Int × Unit) × Unit)))) => (if ((Bool.not (x6.2.1 == (0 : Int))) = Bool.true) then
  (x8 ((), ((Int.tmod x6.2.2.1 x6.2.1), (x6.2.1, ()))))
  else (Option.none))))
  else (x4 ((), (x6.2.2.1, ())))))))
def d159 : (Nat → (I2 → (Option ((Int × Unit) × Unit)))) :=
  (fun (x0 : Nat) => (fun (x1 : I2) => (Option.bind (d207 x0 (x1.1, ())) fun (x2 : ((Int × Unit) × Unit)) =>
  (Option.bind (d207 x0 (x1.2.1, ())) fun (x3 : ((Int × Unit) × Unit)) =>
  (shr (d159_K1 x0) (fun (x4 : ((Unit × (Int × Unit)) → (Option ((Int × Unit) × Unit)))) => (loopN (d159_L3 x4) x0 ((), (x3.1.1, (x2.1.1, ()))))))))))
theorem k159 : c_fn Tryz.prog ⟨[(207, ⟨s207, d207⟩), (208, ⟨s208, d208⟩)], ks0⟩ Tryz.f159 s159 h159 = some d159 := by kernel_rfl
/-- bulkhead/bulkheadref01.Mul -/
def s158 : Sig := ⟨[((.int .i64), .val), ((.int .i64), .val)], [((.int .i64), .val), (.bool, .val)]⟩
 def h158 : Hint := (.seq .leaf
   (.seq .leaf
   (.seq .leaf
   (.seq (.seq .leaf
   (.cond none
     (.seq .leaf
     .leaf)
     .leaf))
   (.seq .leaf
   .leaf)))))
def d158 : (Nat → (I2 → (Option ((Int × (Bool × Unit)) × Unit)))) :=
  (fun (x0 : Nat) => (fun (x1 : I2) => (Option.bind (d207 x0 (x1.1, ())) fun (x2 : ((Int × Unit) × Unit)) =>
  (Option.bind (d207 x0 (x1.2.1, ())) fun (x3 : ((Int × Unit) × Unit)) =>
  (lt (x2.1.1 != (0 : Int)) fun (x4 : Bool) =>
  (if (((Bool.not ((x4 == Bool.true) && Bool.true)) || (Bool.not (x2.1.1 == (0 : Int)))) = Bool.true) then
  (lt (Go.IntKind.wrap Go.IntKind.u64 (Int.tdiv (9223372036854775808 : Int) x2.1.1)) fun (x5 : Int) =>
  (lt (Decidable.decide (x3.1.1 > x5)) fun (x6 : Bool) =>
  (lt (if (x4 = Bool.true) then
  x6
  else Bool.false) fun (x7 : Bool) =>
  (if (x7 = Bool.true) then
  (Option.some (((0 : Int), (Bool.false, ())), ()))
  else (lt (Decidable.decide (x1.1 < (0 : Int))) fun (x8 : Bool) =>
  (lt (Decidable.decide (x1.2.1 < (0 : Int))) fun (x9 : Bool) =>
  (lt (Bool.not (x8 == x9)) fun (x10 : Bool) =>
  (lt (Go.IntKind.wrap Go.IntKind.u64 (x2.1.1 * x3.1.1)) fun (x11 : Int) =>
  (lt (x11 != (0 : Int)) fun (x12 : Bool) =>
  (Option.bind (d208 x0 ((if (x10 = Bool.true) then
  x12
  else Bool.false), ((Go.IntKind.wrap Go.IntKind.u64 (x2.1.1 * x3.1.1)), ()))) fun (x13 : ((Int × (Bool × Unit)) × Unit)) =>
  (Option.some ((x13.1.1, (x13.1.2.1, ())), ()))))))))))))
  else (Option.none)))))))
theorem k158 : c_fn Tryz.prog ⟨[(207, ⟨s207, d207⟩), (208, ⟨s208, d208⟩)], ks0⟩ Tryz.f158 s158 h158 = some d158 := by kernel_rfl
/-- bulkhead/bulkheadref01.Lcm -/
def s136 : Sig := ⟨[((.sl 2 (.int .i64)), .val), ((.int .i64), .val)], [((.int .i64), .val), (.bool, .val)]⟩
 def h136 : Hint := (.seq .leaf
   (.seq .leaf
   (.seq (.seq .leaf
   (.block ⟨[], [((1, 0), (.val (.int .i64))), ((0, 0), (.val (.sl 2 (.int .i64)))), ((6, 0), (.val (.int .i64)))]⟩ true
     (.loop ⟨[], [((7, 0), (.val (.int .i64))), ((0, 0), (.val (.sl 2 (.int .i64)))), ((1, 0), (.val (.int .i64))), ((6, 0), (.val (.int .i64)))]⟩
       (.seq (.seq .leaf
       (.cond none
         .leaf
         .leaf))
       (.seq (.block ⟨[], [((0, 0), (.val (.sl 2 (.int .i64)))), ((1, 0), (.val (.int .i64))), ((6, 0), (.val (.int .i64))), ((7, 0), (.val (.int .i64)))]⟩ true
         (.seq .leaf
         (.cond none
           (.seq .leaf
           .leaf)
           .leaf)))
       .leaf)))))
   (.seq (.seq .leaf
   (.block ⟨[], [((6, 0), (.val (.int .i64))), ((1, 0), (.val (.int .i64)))]⟩ true
     (.loop ⟨[], [((8, 0), (.val (.int .i64))), ((1, 0), (.val (.int .i64))), ((0, 0), (.val (.sl 2 (.int .i64)))), ((6, 0), (.val (.int .i64)))]⟩
       (.seq (.seq .leaf
       (.cond none
         .leaf
         .leaf))
       (.seq (.block ⟨[], [((1, 0), (.val (.int .i64))), ((0, 0), (.val (.sl 2 (.int .i64)))), ((6, 0), (.val (.int .i64))), ((8, 0), (.val (.int .i64)))]⟩ true
         (.seq .leaf
         (.seq (.seq .leaf
         (.cond none
           (.seq .leaf
           .leaf)
           .leaf))
         .leaf)))
       .leaf)))))
   (.seq (.seq .leaf
   (.cond none
     (.seq .leaf
     .leaf)
     .leaf))
   (.seq .leaf
   .leaf))))))
def d136_K1  : ((Unit × I2) → (Option ((Int × (Bool × Unit)) × Unit))) :=
  (fun (x3 : (Unit × I2)) => (lt (Decidable.decide (x3.2.1 > x3.2.2.1)) fun (x4 : Bool) =>
  (if (x4 = Bool.true) then
  (Option.some (((0 : Int), (Bool.false, ())), ()))
  else (Option.some ((x3.2.1, (Bool.true, ())), ())))))
def d136_K2 (x4 : ((Unit × (Int × (Int × ((List Int) × (Int × Unit))))) → (Option ((Int × (Bool × Unit)) × Unit)))) : ((Unit × (Int × ((List Int) × I2))) → (Option ((Int × (Bool × Unit)) × Unit))) :=
  (fun (x8 : (Unit × (Int × ((List Int) × I2)))) => (x4 ((), ((Go.IntKind.wrap Go.IntKind.i64 (x8.2.2.2.2.1 + (1 : Int))), (x8.2.1, (x8.2.2.1, (x8.2.2.2.1, ())))))))
def d136_L3 (x0 : Nat) (x3 : ((Unit × I2) → (Option ((Int × (Bool × Unit)) × Unit)))) : (((Unit × (Int × (Int × ((List Int) × (Int × Unit))))) → (Option ((Int × (Bool × Unit)) × Unit))) → ((Unit × (Int × (Int × ((List Int) × (Int × Unit))))) → (Option ((Int × (Bool × Unit)) × Unit)))) :=
  (fun (x4 : ((Unit × (Int × (Int × ((List Int) × (Int × Unit))))) → (Option ((Int × (Bool × Unit)) × Unit)))) => (fun (x5 : (Unit × (Int × (Int × ((List Int) × (Int × Unit)))))) => (lt (((List.length x5.2.2.2.1) : Nat) : Int) fun (x6 : Int) =>
  (lt (Decidable.decide (x5.2.1 < x6)) fun (x7 : Bool) =>
  (if (x7 = Bool.true) then
  (shr (d136_K2 x4) (fun (x8 : ((Unit × (Int × ((List Int) × I2))) → (Option ((Int × (Bool × Unit)) × Unit)))) => (if (((Decidable.decide ((0 : Int) ≤ x5.2.1)) && (Decidable.decide (x5.2.1 < (((List.length x5.2.2.2.1) : Nat) : Int)))) = Bool.true) then
  (lt (List.getD x5.2.2.2.1 (Int.toNat x5.2.1) (0 : Int)) fun (x9 : Int) =>
  (if (((Decidable.decide ((0 : Int) ≤ x5.2.1)) && (Decidable.decide (x5.2.1 < (((List.length x5.2.2.2.1) : Nat) : Int)))) = Bool.true) then
  (lt (List.getD x5.2.2.2.1 (Int.toNat x5.2.1) (0 : Int)) fun (x10 : Int) =>
  (Option.bind (d159 x0 (x5.2.2.2.2.1, (x10, ()))) fun (x11 : ((Int × Unit) × Unit)) =>
  (if ((Bool.not (x11.1.1 == (0 : Int))) = Bool.true) then
  (lt (Go.IntKind.wrap Go.IntKind.i64 (Int.tdiv x9 x11.1.1)) fun (x12 : Int) =>
  (Option.bind (d158 x0 (x5.2.2.2.2.1, (x12, ()))) fun (x13 : ((Int × (Bool × Unit)) × Unit)) =>
  (lt (Bool.not x13.1.2.1) fun (x14 : Bool) =>
  (lt (Decidable.decide (x13.1.1 > x5.2.2.1)) fun (x15 : Bool) =>
  (lt (if (x14 = Bool.true) then
  Bool.true
  else x15) fun (x16 : Bool) =>
  (if (x16 = Bool.true) then
  (Option.some (((0 : Int), (Bool.false, ())), ()))
  else (x8 ((), (x5.2.2.1, (x5.2.2.2.1, (x13.1.1, (x5.2.1, ()))))))))))))
  else (Option.none))))
  else (Option.none)))
  else (Option.none))))
  else (x3 ((), (x5.2.2.2.2.1, (x5.2.2.1, ())))))))))
def d136_K4 (x0 : Nat) : ((Unit × (Int × ((List Int) × (Int × Unit)))) → (Option ((Int × (Bool × Unit)) × Unit))) :=
  (fun (x2 : (Unit × (Int × ((List Int) × (Int × Unit))))) => (shr d136_K1 (fun (x3 : ((Unit × I2) → (Option ((Int × (Bool × Unit)) × Unit)))) => (loopN (d136_L3 x0 x3) x0 ((), ((0 : Int), (x2.2.1, (x2.2.2.1, (x2.2.2.2.1, ())))))))))
def d136_K5 (x3 : ((Unit × (Int × ((List Int) × I2))) → (Option ((Int × (Bool × Unit)) × Unit)))) : ((Unit × ((List Int) × (Int × I2))) → (Option ((Int × (Bool × Unit)) × Unit))) :=
  (fun (x7 : (Unit × ((List Int) × (Int × I2)))) => (x3 ((), ((Go.IntKind.wrap Go.IntKind.i64 (x7.2.2.2.2.1 + (1 : Int))), (x7.2.1, (x7.2.2.1, (x7.2.2.2.1, ())))))))
def d136_L6 (x2 : ((Unit × (Int × ((List Int) × (Int × Unit)))) → (Option ((Int × (Bool × Unit)) × Unit)))) : (((Unit × (Int × ((List Int) × I2))) → (Option ((Int × (Bool × Unit)) × Unit))) → ((Unit × (Int × ((List Int) × I2))) → (Option ((Int × (Bool × Unit)) × Unit)))) :=
  (fun (x3 : ((Unit × (Int × ((List Int) × I2))) → (Option ((Int × (Bool × Unit)) × Unit)))) => (fun (x4 : (Unit × (Int × ((List Int) × I2)))) => (lt (((List.length x4.2.2.1) : Nat) : Int) fun (x5 : Int) =>
  (lt (Decidable.decide (x4.2.1 < x5)) fun (x6 : Bool) =>
  (if (x6 = Bool.true) then
  (shr (d136_K5 x3) (fun (x7 : ((Unit × ((List Int) × (Int × I2))) → (Option ((Int × (Bool × Unit)) × Unit)))) => (if (((Decidable.decide ((0 : Int) ≤ x4.2.1)) && (Decidable.decide (x4.2.1 < (((List.length x4.2.2.1) : Nat) : Int)))) = Bool.true) then
  (lt (List.getD x4.2.2.1 (Int.toNat x4.2.1) (0 : Int)) fun (x8 : Int) =>
  (lt (Decidable.decide (x8 < (1 : Int))) fun (x9 : Bool) =>
  (if (x9 = Bool.true) then
  (Option.some (((0 : Int), (Bool.false, ())), ()))
  else (x7 ((), (x4.2.2.1, (x4.2.2.2.1, (x4.2.2.2.2.1, (x4.2.1, ())))))))))
  else (Option.none))))
  else (x2 ((), (x4.2.2.2.1, (x4.2.2.1, (x4.2.2.2.2.1, ()))))))))))
def d136 : (Nat → (((List Int) × (Int × Unit)) → (Option ((Int × (Bool × Unit)) × Unit)))) :=
  (fun (x0 : Nat) => (fun (x1 : ((List Int) × (Int × Unit))) => (shr (d136_K4 x0) (fun (x2 : ((Unit × (Int × ((List Int) × (Int × Unit)))) → (Option ((Int × (Bool × Unit)) × Unit)))) => (loopN (d136_L6 x2) x0 ((), ((0 : Int), (x1.1, (x1.2.1, ((1 : Int), ()))))))))))
theorem k136 : c_fn Tryz.prog ⟨[(159, ⟨s159, d159⟩), (158, ⟨s158, d158⟩)], ks0⟩ Tryz.f136 s136 h136 = some d136 := by kernel_rfl
/-- bulkhead/bulkheadref10.hyper -/
def s99 : Sig := ⟨[((.sl 55 kSV), .val)], [((.int .i64), .val), (.bool, .val)]⟩
 def h99 : Hint := (.seq .leaf
   (.seq .leaf
   (.seq (.seq .leaf
   (.block ⟨[((.sl 2 (.int .i64)), (.ow .sh), (4, 0))], [((4, 0), (.own 0))]⟩ true
     (.loop ⟨[((.sl 2 (.int .i64)), (.ow .sh), (4, 0))], [((5, 0), (.val (.int .i64))), ((0, 0), (.val (.sl 55 kSV))), ((4, 0), (.own 0))]⟩
       (.seq (.seq .leaf
       (.cond none
         .leaf
         .leaf))
       (.seq (.block ⟨[((.sl 2 (.int .i64)), (.ow .sh), (4, 0))], [((0, 0), (.val (.sl 55 kSV))), ((4, 0), (.own 0)), ((5, 0), (.val (.int .i64)))]⟩ true
         .leaf)
       .leaf)))))
   (.seq .leaf
   (.seq .leaf
   .leaf)))))
def d99_K1 (x0 : Nat) : ((((List Int) × Unit) × Unit) → (Option ((Int × (Bool × Unit)) × Unit))) :=
  (fun (x2 : (((List Int) × Unit) × Unit)) => (Option.bind (d136 x0 (x2.1.1, ((1048576 : Int), ()))) fun (x3 : ((Int × (Bool × Unit)) × Unit)) =>
  (Option.some ((x3.1.1, (x3.1.2.1, ())), ()))))
def d99_K2 (x3 : ((((List Int) × Unit) × (Int × ((List SV) × Unit))) → (Option ((Int × (Bool × Unit)) × Unit)))) : ((((List Int) × Unit) × ((List SV) × (Int × Unit))) → (Option ((Int × (Bool × Unit)) × Unit))) :=
  (fun (x7 : (((List Int) × Unit) × ((List SV) × (Int × Unit)))) => (x3 ((x7.1.1, ()), ((Go.IntKind.wrap Go.IntKind.i64 (x7.2.2.1 + (1 : Int))), (x7.2.1, ())))))
def d99_L3 (x2 : ((((List Int) × Unit) × Unit) → (Option ((Int × (Bool × Unit)) × Unit)))) : (((((List Int) × Unit) × (Int × ((List SV) × Unit))) → (Option ((Int × (Bool × Unit)) × Unit))) → ((((List Int) × Unit) × (Int × ((List SV) × Unit))) → (Option ((Int × (Bool × Unit)) × Unit)))) :=
  (fun (x3 : ((((List Int) × Unit) × (Int × ((List SV) × Unit))) → (Option ((Int × (Bool × Unit)) × Unit)))) => (fun (x4 : (((List Int) × Unit) × (Int × ((List SV) × Unit)))) => (lt (((List.length x4.2.2.1) : Nat) : Int) fun (x5 : Int) =>
  (lt (Decidable.decide (x4.2.1 < x5)) fun (x6 : Bool) =>
  (if (x6 = Bool.true) then
  (shr (d99_K2 x3) (fun (x7 : ((((List Int) × Unit) × ((List SV) × (Int × Unit))) → (Option ((Int × (Bool × Unit)) × Unit)))) => (if (((Decidable.decide ((0 : Int) ≤ x4.2.1)) && (Decidable.decide (x4.2.1 < (((List.length x4.2.2.1) : Nat) : Int)))) = Bool.true) then
  (lt (List.getD x4.2.2.1 (Int.toNat x4.2.1) ((0 : Int), ((0 : Int), ((0 : Int), ((0 : Int), ()))))).1 fun (x8 : Int) =>
  (lt (x8 :: ([] : List Int)) fun (x9 : (List Int)) =>
  (if ((Go.Lift.appFits (List.length x4.1.1) (List.length x9) (8 : Nat)) = Bool.true) then
  (x7 (((x4.1.1 ++ x9), ()), (x4.2.2.1, (x4.2.1, ()))))
  else (Option.none))))
  else (Option.none))))
  else (x2 ((x4.1.1, ()), ())))))))
def d99 : (Nat → (((List SV) × Unit) → (Option ((Int × (Bool × Unit)) × Unit)))) :=
  (fun (x0 : Nat) => (fun (x1 : ((List SV) × Unit)) => (shr (d99_K1 x0) (fun (x2 : ((((List Int) × Unit) × Unit) → (Option ((Int × (Bool × Unit)) × Unit)))) => (loopN (d99_L3 x2) x0 ((([] : List Int), ()), ((0 : Int), (x1.1, ()))))))))
theorem k99 : c_fn Tryz.prog ⟨[(136, ⟨s136, d136⟩)], ks0⟩ Tryz.f99 s99 h99 = some d99 := by kernel_rfl
/-- bulkhead/bulkheadref10.Hyper -/
def s48 : Sig := ⟨[((.sl 55 kSV), .val)], [((.int .i64), .val), ((.int .i64), .val)]⟩
 def h48 : Hint := (.seq .leaf
   (.seq .leaf
   (.seq (.seq .leaf
   (.cond none
     (.seq .leaf
     .leaf)
     .leaf))
   (.seq .leaf
   (.seq (.seq .leaf
   (.cond none
     (.seq .leaf
     .leaf)
     .leaf))
   (.seq .leaf
   (.seq (.seq .leaf
   (.block ⟨[], [((6, 0), (.val (.int .i64))), ((8, 0), (.val (.int .i64)))]⟩ true
     (.loop ⟨[], [((9, 0), (.val (.int .i64))), ((0, 0), (.val (.sl 55 kSV))), ((6, 0), (.val (.int .i64))), ((8, 0), (.val (.int .i64)))]⟩
       (.seq (.seq .leaf
       (.cond none
         .leaf
         .leaf))
       (.seq (.block ⟨[], [((0, 0), (.val (.sl 55 kSV))), ((6, 0), (.val (.int .i64))), ((8, 0), (.val (.int .i64))), ((9, 0), (.val (.int .i64)))]⟩ true
         .leaf)
       .leaf)))))
   (.seq (.seq .leaf
   (.cond none
     (.seq .leaf
     .leaf)
     .leaf))
   (.seq .leaf
   .leaf)))))))))
def d48_K1  : ((Unit × I2) → (Option (I2 × Unit))) :=
  (fun (x6 : (Unit × I2)) => (lt (Decidable.decide (x6.2.2.1 > (65536 : Int))) fun (x7 : Bool) =>
  (if (x7 = Bool.true) then
  (Option.some (((0 : Int), ((103 : Int), ())), ()))
  else (Option.some ((x6.2.1, ((0 : Int), ())), ())))))
def d48_K2 (x7 : ((Unit × (Int × ((List SV) × I2))) → (Option (I2 × Unit)))) : ((Unit × ((List SV) × (Int × I2))) → (Option (I2 × Unit))) :=
  (fun (x11 : (Unit × ((List SV) × (Int × I2)))) => (x7 ((), ((Go.IntKind.wrap Go.IntKind.i64 (x11.2.2.2.2.1 + (1 : Int))), (x11.2.1, (x11.2.2.1, (x11.2.2.2.1, ())))))))
def d48_L3 (x6 : ((Unit × I2) → (Option (I2 × Unit)))) : (((Unit × (Int × ((List SV) × I2))) → (Option (I2 × Unit))) → ((Unit × (Int × ((List SV) × I2))) → (Option (I2 × Unit)))) :=
  (fun (x7 : ((Unit × (Int × ((List SV) × I2))) → (Option (I2 × Unit)))) => (fun (x8 : (Unit × (Int × ((List SV) × I2)))) => (lt (((List.length x8.2.2.1) : Nat) : Int) fun (x9 : Int) =>
  (lt (Decidable.decide (x8.2.1 < x9)) fun (x10 : Bool) =>
  (if (x10 = Bool.true) then
  (shr (d48_K2 x7) (fun (x11 : ((Unit × ((List SV) × (Int × I2))) → (Option (I2 × Unit)))) => (lt (Go.IntKind.wrap Go.IntKind.i64 ((2 : Int) * x8.2.2.2.1)) fun (x12 : Int) =>
  (if (((Decidable.decide ((0 : Int) ≤ x8.2.1)) && (Decidable.decide (x8.2.1 < (((List.length x8.2.2.1) : Nat) : Int)))) = Bool.true) then
  (lt (List.getD x8.2.2.1 (Int.toNat x8.2.1) ((0 : Int), ((0 : Int), ((0 : Int), ((0 : Int), ()))))).1 fun (x13 : Int) =>
  (if ((Bool.not (x13 == (0 : Int))) = Bool.true) then
  (x11 ((), (x8.2.2.1, (x8.2.2.2.1, ((Go.IntKind.wrap Go.IntKind.i64 (x8.2.2.2.2.1 + (Go.IntKind.wrap Go.IntKind.i64 (Int.tdiv x12 x13)))), (x8.2.1, ()))))))
  else (Option.none)))
  else (Option.none)))))
  else (x6 ((), (x8.2.2.2.1, (x8.2.2.2.2.1, ())))))))))
def d48 : (Nat → (((List SV) × Unit) → (Option (I2 × Unit)))) :=
  (fun (x0 : Nat) => (fun (x1 : ((List SV) × Unit)) => (Option.bind (d46 x0 (x1.1, ())) fun (x2 : (I2 × Unit)) =>
  (lt (x2.1.1 != (0 : Int)) fun (x3 : Bool) =>
  (if (x3 = Bool.true) then
  (Option.some (((0 : Int), (x2.1.1, ())), ()))
  else (Option.bind (d99 x0 (x1.1, ())) fun (x4 : ((Int × (Bool × Unit)) × Unit)) =>
  (lt (Bool.not x4.1.2.1) fun (x5 : Bool) =>
  (if (x5 = Bool.true) then
  (Option.some (((0 : Int), ((102 : Int), ())), ()))
  else (shr d48_K1 (fun (x6 : ((Unit × I2) → (Option (I2 × Unit)))) => (loopN (d48_L3 x6) x0 ((), ((0 : Int), (x1.1, (x4.1.1, ((0 : Int), ()))))))))))))))))
theorem k48 : c_fn Tryz.prog ⟨[(46, ⟨s46, d46⟩), (99, ⟨s99, d99⟩)], ks0⟩ Tryz.f48 s48 h48 = some d48 := by kernel_rfl
/-- bulkhead/bulkheadref10.proc -/
def s100 : Sig := ⟨[(kPT, .val), (kPC, .val)], [(.bool, .val)]⟩
 def h100 : Hint := (.seq .leaf
   (.seq (.seq .leaf
   (.cond none
     (.seq .leaf
     .leaf)
     .leaf))
   (.seq (.seq .leaf
   (.cond none
     (.seq .leaf
     .leaf)
     .leaf))
   (.seq .leaf
   .leaf))))
def d100 : (Nat → ((PT × (PC × Unit)) → (Option ((Bool × Unit) × Unit)))) :=
  (fun (x0 : Nat) => (fun (x1 : (PT × (PC × Unit))) => (lt (((List.length x1.1.2.2.2.2.1) : Nat) : Int) fun (x2 : Int) =>
  (lt (Go.IntKind.wrap Go.IntKind.i64 (x2 - (1 : Int))) fun (x3 : Int) =>
  (Option.bind (d97 x0 (x1.2.1.1, ((0 : Int), (x3, ())))) fun (x4 : ((Bool × Unit) × Unit)) =>
  (lt (Bool.not x4.1.1) fun (x5 : Bool) =>
  (Option.bind (if (((x5 == Bool.false) && Bool.true) = Bool.true) then
  (d97 x0 (x1.2.1.2.1, ((0 : Int), ((255 : Int), ()))))
  else (Option.some ((Bool.false, ()), ()))) fun (x6 : ((Bool × Unit) × Unit)) =>
  (lt (Bool.not x6.1.1) fun (x7 : Bool) =>
  (lt (if (x5 = Bool.true) then
  Bool.true
  else x7) fun (x8 : Bool) =>
  (Option.bind (if (((x8 == Bool.false) && Bool.true) = Bool.true) then
  (d97 x0 (x1.2.1.2.2.2.2.1, ((0 : Int), ((2147483647 : Int), ()))))
  else (Option.some ((Bool.false, ()), ()))) fun (x9 : ((Bool × Unit) × Unit)) =>
  (lt (Bool.not x9.1.1) fun (x10 : Bool) =>
  (lt (if (x8 = Bool.true) then
  Bool.true
  else x10) fun (x11 : Bool) =>
  (if (x11 = Bool.true) then
  (Option.some ((Bool.false, ()), ()))
  else (Option.bind (d97 x0 (x1.2.1.2.2.1, ((0 : Int), ((1099511627775 : Int), ())))) fun (x12 : ((Bool × Unit) × Unit)) =>
  (lt (Bool.not x12.1.1) fun (x13 : Bool) =>
  (Option.bind (if (((x13 == Bool.false) && Bool.true) = Bool.true) then
  (d97 x0 (x1.2.1.2.2.2.1, ((0 : Int), ((1099511627775 : Int), ()))))
  else (Option.some ((Bool.false, ()), ()))) fun (x14 : ((Bool × Unit) × Unit)) =>
  (lt (Bool.not x14.1.1) fun (x15 : Bool) =>
  (lt (if (x13 = Bool.true) then
  Bool.true
  else x15) fun (x16 : Bool) =>
  (if (x16 = Bool.true) then
  (Option.some ((Bool.false, ()), ()))
  else (lt (x1.2.1.2.2.1 == (0 : Int)) fun (x17 : Bool) =>
  (lt (Decidable.decide (x1.2.1.2.2.2.1 ≤ x1.2.1.2.2.1)) fun (x18 : Bool) =>
  (Option.some (((if (x17 = Bool.true) then
  Bool.true
  else x18), ()), ())))))))))))))))))))))))
theorem k100 : c_fn Tryz.prog ⟨[(97, ⟨s97, d97⟩)], ks0⟩ Tryz.f100 s100 h100 = some d100 := by kernel_rfl
/-- bulkhead/bulkheadref10.objects -/
def s101 : Sig := ⟨[(kPT, .val)], [(.bool, .val)]⟩
 def h101 : Hint := (.seq .leaf
   (.seq (.seq .leaf
   (.block ⟨[((.ptr 64 kPT), (.ow .sh), (1, 0))], [((1, 0), (.own 0))]⟩ true
     (.loop ⟨[((.ptr 64 kPT), (.ow .sh), (1, 0))], [((3, 0), (.val (.int .i64))), ((1, 0), (.own 0))]⟩
       (.seq (.seq .leaf
       (.cond none
         .leaf
         .leaf))
       (.seq (.block ⟨[((.ptr 64 kPT), (.ow .sh), (1, 0))], [((1, 0), (.own 0)), ((3, 0), (.val (.int .i64)))]⟩ true
         (.seq .leaf
         (.cond none
           (.seq .leaf
           .leaf)
           .leaf)))
       .leaf)))))
   (.seq (.seq .leaf
   (.block ⟨[], []⟩ true
     (.loop ⟨[((.ptr 64 kPT), (.ow .sh), (1, 0))], [((4, 0), (.val (.int .i64))), ((1, 0), (.own 0))]⟩
       (.seq (.seq .leaf
       (.cond none
         .leaf
         .leaf))
       (.seq (.block ⟨[((.ptr 64 kPT), (.ow .sh), (1, 0))], [((1, 0), (.own 0)), ((4, 0), (.val (.int .i64)))]⟩ true
         (.seq .leaf
         (.cond none
           (.seq .leaf
           .leaf)
           .leaf)))
       .leaf)))))
   (.seq .leaf
   .leaf))))
def d101_K1 (x4 : (((PT × Unit) × (Int × Unit)) → (Option ((Bool × Unit) × Unit)))) : (((PT × Unit) × (Int × Unit)) → (Option ((Bool × Unit) × Unit))) :=
  (fun (x8 : ((PT × Unit) × (Int × Unit))) => (x4 ((x8.1.1, ()), ((Go.IntKind.wrap Go.IntKind.i64 (x8.2.1 + (1 : Int))), ()))))
def d101_L2 (x0 : Nat) (x3 : ((Unit × Unit) → (Option ((Bool × Unit) × Unit)))) : ((((PT × Unit) × (Int × Unit)) → (Option ((Bool × Unit) × Unit))) → (((PT × Unit) × (Int × Unit)) → (Option ((Bool × Unit) × Unit)))) :=
  (fun (x4 : (((PT × Unit) × (Int × Unit)) → (Option ((Bool × Unit) × Unit)))) => (fun (x5 : ((PT × Unit) × (Int × Unit))) => (lt (((List.length x5.1.1.2.2.2.2.2.2.2.2.2.2.1) : Nat) : Int) fun (x6 : Int) =>
  (lt (Decidable.decide (x5.2.1 < x6)) fun (x7 : Bool) =>
  (if (x7 = Bool.true) then
  (shr (d101_K1 x4) (fun (x8 : (((PT × Unit) × (Int × Unit)) → (Option ((Bool × Unit) × Unit)))) => (if (((Decidable.decide ((0 : Int) ≤ x5.2.1)) && (Decidable.decide (x5.2.1 < (((List.length x5.1.1.2.2.2.2.2.2.2.2.2.2.1) : Nat) : Int)))) = Bool.true) then
  (lt (List.getD x5.1.1.2.2.2.2.2.2.2.2.2.2.1 (Int.toNat x5.2.1) ((0 : Int), ((0 : Int), ()))).1 fun (x9 : Int) =>
  (Option.bind (d97 x0 (x9, ((1 : Int), ((16 : Int), ())))) fun (x10 : ((Bool × Unit) × Unit)) =>
  (lt (Bool.not x10.1.1) fun (x11 : Bool) =>
  (if (((Bool.not ((x11 == Bool.false) && Bool.true)) || ((Decidable.decide ((0 : Int) ≤ x5.2.1)) && (Decidable.decide (x5.2.1 < (((List.length x5.1.1.2.2.2.2.2.2.2.2.2.2.1) : Nat) : Int))))) = Bool.true) then
  (lt (List.getD x5.1.1.2.2.2.2.2.2.2.2.2.2.1 (Int.toNat x5.2.1) ((0 : Int), ((0 : Int), ()))).2.1 fun (x12 : Int) =>
  (Option.bind (if (((x11 == Bool.false) && Bool.true) = Bool.true) then
  (d97 x0 (x12, ((1 : Int), ((64 : Int), ()))))
  else (Option.some ((Bool.false, ()), ()))) fun (x13 : ((Bool × Unit) × Unit)) =>
  (lt (Bool.not x13.1.1) fun (x14 : Bool) =>
  (lt (if (x11 = Bool.true) then
  Bool.true
  else x14) fun (x15 : Bool) =>
  (if (x15 = Bool.true) then
  (Option.some ((Bool.false, ()), ()))
  else (x8 ((x5.1.1, ()), (x5.2.1, ()))))))))
  else (Option.none)))))
  else (Option.none))))
  else (x3 ((), ())))))))
def d101_K3 (x0 : Nat) : (((PT × Unit) × Unit) → (Option ((Bool × Unit) × Unit))) :=
  (fun (x2 : ((PT × Unit) × Unit)) => (shr (fun (x3 : (Unit × Unit)) => (Option.some ((Bool.true, ()), ()))) (fun (x3 : ((Unit × Unit) → (Option ((Bool × Unit) × Unit)))) => (loopN (d101_L2 x0 x3) x0 ((x2.1.1, ()), ((0 : Int), ()))))))
def d101_K4 (x3 : (((PT × Unit) × (Int × Unit)) → (Option ((Bool × Unit) × Unit)))) : (((PT × Unit) × (Int × Unit)) → (Option ((Bool × Unit) × Unit))) :=
  (fun (x7 : ((PT × Unit) × (Int × Unit))) => (x3 ((x7.1.1, ()), ((Go.IntKind.wrap Go.IntKind.i64 (x7.2.1 + (1 : Int))), ()))))
def d101_L5 (x0 : Nat) (x2 : (((PT × Unit) × Unit) → (Option ((Bool × Unit) × Unit)))) : ((((PT × Unit) × (Int × Unit)) → (Option ((Bool × Unit) × Unit))) → (((PT × Unit) × (Int × Unit)) → (Option ((Bool × Unit) × Unit)))) :=
  (fun (x3 : (((PT × Unit) × (Int × Unit)) → (Option ((Bool × Unit) × Unit)))) => (fun (x4 : ((PT × Unit) × (Int × Unit))) => (lt (((List.length x4.1.1.2.2.2.2.2.2.2.2.1) : Nat) : Int) fun (x5 : Int) =>
  (lt (Decidable.decide (x4.2.1 < x5)) fun (x6 : Bool) =>
  (if (x6 = Bool.true) then
  (shr (d101_K4 x3) (fun (x7 : (((PT × Unit) × (Int × Unit)) → (Option ((Bool × Unit) × Unit)))) => (if (((Decidable.decide ((0 : Int) ≤ x4.2.1)) && (Decidable.decide (x4.2.1 < (((List.length x4.1.1.2.2.2.2.2.2.2.2.1) : Nat) : Int)))) = Bool.true) then
  (lt (List.getD x4.1.1.2.2.2.2.2.2.2.2.1 (Int.toNat x4.2.1) ((0 : Int), ((0 : Int), ()))).2.1 fun (x8 : Int) =>
  (Option.bind (d97 x0 (x8, ((1 : Int), ((2147483647 : Int), ())))) fun (x9 : ((Bool × Unit) × Unit)) =>
  (lt (Bool.not x9.1.1) fun (x10 : Bool) =>
  (if (((Bool.not ((x10 == Bool.false) && Bool.true)) || ((Decidable.decide ((0 : Int) ≤ x4.2.1)) && (Decidable.decide (x4.2.1 < (((List.length x4.1.1.2.2.2.2.2.2.2.2.1) : Nat) : Int))))) = Bool.true) then
  (lt (List.getD x4.1.1.2.2.2.2.2.2.2.2.1 (Int.toNat x4.2.1) ((0 : Int), ((0 : Int), ()))).1 fun (x11 : Int) =>
  (if (((Bool.not ((x10 == Bool.false) && Bool.true)) || ((Decidable.decide ((0 : Int) ≤ x4.2.1)) && (Decidable.decide (x4.2.1 < (((List.length x4.1.1.2.2.2.2.2.2.2.2.1) : Nat) : Int))))) = Bool.true) then
  (lt (List.getD x4.1.1.2.2.2.2.2.2.2.2.1 (Int.toNat x4.2.1) ((0 : Int), ((0 : Int), ()))).2.1 fun (x12 : Int) =>
  (Option.bind (if (((x10 == Bool.false) && Bool.true) = Bool.true) then
  (d97 x0 (x11, ((0 : Int), (x12, ()))))
  else (Option.some ((Bool.false, ()), ()))) fun (x13 : ((Bool × Unit) × Unit)) =>
  (lt (Bool.not x13.1.1) fun (x14 : Bool) =>
  (lt (if (x10 = Bool.true) then
  Bool.true
  else x14) fun (x15 : Bool) =>
  (if (x15 = Bool.true) then
  (Option.some ((Bool.false, ()), ()))
  else (x7 ((x4.1.1, ()), (x4.2.1, ()))))))))
  else (Option.none)))
  else (Option.none)))))
  else (Option.none))))
  else (x2 ((x4.1.1, ()), ())))))))
def d101 : (Nat → ((PT × Unit) → (Option ((Bool × Unit) × Unit)))) :=
  (fun (x0 : Nat) => (fun (x1 : (PT × Unit)) => (shr (d101_K3 x0) (fun (x2 : (((PT × Unit) × Unit) → (Option ((Bool × Unit) × Unit)))) => (loopN (d101_L5 x0 x2) x0 ((x1.1, ()), ((0 : Int), ())))))))
theorem k101 : c_fn Tryz.prog ⟨[(97, ⟨s97, d97⟩)], ks0⟩ Tryz.f101 s101 h101 = some d101 := by kernel_rfl
/-- bulkhead/bulkheadref10.health -/
def s102 : Sig := ⟨[(kPT, .val)], [(.bool, .val)]⟩
 def h102 : Hint := (.seq .leaf
   (.seq (.seq .leaf
   (.block ⟨[((.ptr 64 kPT), (.ow .sh), (1, 0))], [((1, 0), (.own 0))]⟩ true
     (.loop ⟨[((.ptr 64 kPT), (.ow .sh), (1, 0))], [((3, 0), (.val (.int .i64))), ((1, 0), (.own 0))]⟩
       (.seq (.seq .leaf
       (.cond none
         .leaf
         .leaf))
       (.seq (.block ⟨[((.ptr 64 kPT), (.ow .sh), (1, 0))], [((1, 0), (.own 0)), ((3, 0), (.val (.int .i64)))]⟩ true
         (.seq .leaf
         (.cond none
           (.seq .leaf
           .leaf)
           .leaf)))
       .leaf)))))
   (.seq (.seq .leaf
   (.cond none
     (.seq .leaf
     .leaf)
     .leaf))
   (.seq (.seq .leaf
   (.cond none
     (.seq .leaf
     .leaf)
     .leaf))
   (.seq .leaf
   (.seq .leaf
   .leaf))))))
def d102_K1 (x0 : Nat) : (((PT × Unit) × Unit) → (Option ((Bool × Unit) × Unit))) :=
  (fun (x2 : ((PT × Unit) × Unit)) => (lt (((List.length x2.1.1.2.2.2.2.2.1) : Nat) : Int) fun (x3 : Int) =>
  (Option.bind (d97 x0 (x2.1.1.2.2.2.2.2.2.1, ((0 : Int), (x3, ())))) fun (x4 : ((Bool × Unit) × Unit)) =>
  (lt (Bool.not x4.1.1) fun (x5 : Bool) =>
  (if (x5 = Bool.true) then
  (Option.some ((Bool.false, ()), ()))
  else (lt (x2.1.1.2.2.2.2.2.2.1 == (0 : Int)) fun (x6 : Bool) =>
  (if (x6 = Bool.true) then
  (Option.some ((Bool.true, ()), ()))
  else (lt (Go.IntKind.wrap Go.IntKind.i64 (x2.1.1.2.2.2.2.2.2.1 - (1 : Int))) fun (x7 : Int) =>
  (if (((Decidable.decide ((0 : Int) ≤ x7)) && (Decidable.decide (x7 < (((List.length x2.1.1.2.2.2.2.2.1) : Nat) : Int)))) = Bool.true) then
  (lt (List.getD x2.1.1.2.2.2.2.2.1 (Int.toNat x7) ((0 : Int), ((0 : Int), ((0 : Int), ((0 : Int), ((0 : Int), (Bool.false, ()))))))) fun (x8 : PC) =>
  (lt (x8.2.2.1 == (0 : Int)) fun (x9 : Bool) =>
  (lt (x8.2.2.2.1 == (0 : Int)) fun (x10 : Bool) =>
  (lt (if (x9 = Bool.true) then
  x10
  else Bool.false) fun (x11 : Bool) =>
  (lt (Bool.not x8.2.2.2.2.2.1) fun (x12 : Bool) =>
  (Option.some (((if (x11 = Bool.true) then
  x12
  else Bool.false), ()), ())))))))
  else (Option.none))))))))))
def d102_K2 (x3 : (((PT × Unit) × (Int × Unit)) → (Option ((Bool × Unit) × Unit)))) : (((PT × Unit) × (Int × Unit)) → (Option ((Bool × Unit) × Unit))) :=
  (fun (x6 : ((PT × Unit) × (Int × Unit))) => (x3 ((x6.1.1, ()), ((Go.IntKind.wrap Go.IntKind.i64 (x6.2.1 + (1 : Int))), ()))))
def d102_L3 (x0 : Nat) (x2 : (((PT × Unit) × Unit) → (Option ((Bool × Unit) × Unit)))) : ((((PT × Unit) × (Int × Unit)) → (Option ((Bool × Unit) × Unit))) → (((PT × Unit) × (Int × Unit)) → (Option ((Bool × Unit) × Unit)))) :=
  (fun (x3 : (((PT × Unit) × (Int × Unit)) → (Option ((Bool × Unit) × Unit)))) => (fun (x4 : ((PT × Unit) × (Int × Unit))) => (lt (Decidable.decide (x4.2.1 < (8 : Int))) fun (x5 : Bool) =>
  (if (x5 = Bool.true) then
  (shr (d102_K2 x3) (fun (x6 : (((PT × Unit) × (Int × Unit)) → (Option ((Bool × Unit) × Unit)))) => (if (((Decidable.decide ((0 : Int) ≤ x4.2.1)) && (Decidable.decide (x4.2.1 < (((8 : Nat) : Nat) : Int)))) = Bool.true) then
  (if (((Decidable.decide ((Int.toNat x4.2.1) < (List.length x4.1.1.2.2.2.2.2.2.2.1))) && Bool.true) = Bool.true) then
  (lt (List.getD x4.1.1.2.2.2.2.2.2.2.1 (Int.toNat x4.2.1) (0 : Int)) fun (x7 : Int) =>
  (Option.bind (d97 x0 (x7, ((0 : Int), ((5 : Int), ())))) fun (x8 : ((Bool × Unit) × Unit)) =>
  (lt (Bool.not x8.1.1) fun (x9 : Bool) =>
  (lt (x4.2.1 == (0 : Int)) fun (x10 : Bool) =>
  (if (((Bool.not ((x10 == Bool.true) && ((x9 == Bool.false) && Bool.true))) || ((Decidable.decide ((0 : Int) ≤ x4.2.1)) && (Decidable.decide (x4.2.1 < (((8 : Nat) : Nat) : Int))))) = Bool.true) then
  (if (((Bool.not ((x10 == Bool.true) && ((x9 == Bool.false) && Bool.true))) || ((Decidable.decide ((Int.toNat x4.2.1) < (List.length x4.1.1.2.2.2.2.2.2.2.1))) && Bool.true)) = Bool.true) then
  (lt (List.getD x4.1.1.2.2.2.2.2.2.2.1 (Int.toNat x4.2.1) (0 : Int)) fun (x11 : Int) =>
  (lt (x11 != (0 : Int)) fun (x12 : Bool) =>
  (lt (if (x10 = Bool.true) then
  x12
  else Bool.false) fun (x13 : Bool) =>
  (lt (if (x9 = Bool.true) then
  Bool.true
  else x13) fun (x14 : Bool) =>
  (if (x14 = Bool.true) then
  (Option.some ((Bool.false, ()), ()))
  else (x6 ((x4.1.1, ()), (x4.2.1, ()))))))))
  else (Option.none))
  else (Option.none))))))
  else (Option.none))
  else (Option.none))))
  else (x2 ((x4.1.1, ()), ()))))))
def d102 : (Nat → ((PT × Unit) → (Option ((Bool × Unit) × Unit)))) :=
  (fun (x0 : Nat) => (fun (x1 : (PT × Unit)) => (shr (d102_K1 x0) (fun (x2 : (((PT × Unit) × Unit) → (Option ((Bool × Unit) × Unit)))) => (loopN (d102_L3 x0 x2) x0 ((x1.1, ()), ((0 : Int), ())))))))
theorem k102 : c_fn Tryz.prog ⟨[(97, ⟨s97, d97⟩)], ks0⟩ Tryz.f102 s102 h102 = some d102 := by kernel_rfl
/-- bulkhead/bulkheadref10.part -/
def s49 : Sig := ⟨[(kPT, .val)], [((.int .i64), .val)]⟩
 def h49 : Hint := (.seq .leaf
   (.seq (.seq .leaf
   (.cond none
     (.seq .leaf
     .leaf)
     .leaf))
   (.seq (.seq .leaf
   (.cond none
     (.seq .leaf
     .leaf)
     .leaf))
   (.seq (.seq .leaf
   (.block ⟨[((.ptr 64 kPT), (.ow .sh), (1, 0))], [((1, 0), (.own 0))]⟩ true
     (.loop ⟨[((.ptr 64 kPT), (.ow .sh), (1, 0))], [((3, 0), (.val (.int .i64))), ((1, 0), (.own 0))]⟩
       (.seq (.seq .leaf
       (.cond none
         .leaf
         .leaf))
       (.seq (.block ⟨[((.ptr 64 kPT), (.ow .sh), (1, 0))], [((1, 0), (.own 0)), ((3, 0), (.val (.int .i64)))]⟩ true
         (.seq .leaf
         (.cond none
           (.seq .leaf
           .leaf)
           .leaf)))
       .leaf)))))
   (.seq (.seq .leaf
   (.cond none
     (.seq .leaf
     .leaf)
     .leaf))
   (.seq (.seq .leaf
   (.cond none
     (.seq .leaf
     .leaf)
     .leaf))
   (.seq .leaf
   .leaf)))))))
def d49_K1 (x0 : Nat) : (((PT × Unit) × Unit) → (Option ((Int × Unit) × Unit))) :=
  (fun (x9 : ((PT × Unit) × Unit)) => (Option.bind (d101 x0 (x9.1.1, ())) fun (x10 : ((Bool × Unit) × Unit)) =>
  (lt (Bool.not x10.1.1) fun (x11 : Bool) =>
  (if (x11 = Bool.true) then
  (Option.some (((106 : Int), ()), ()))
  else (Option.bind (d102 x0 (x9.1.1, ())) fun (x12 : ((Bool × Unit) × Unit)) =>
  (lt (Bool.not x12.1.1) fun (x13 : Bool) =>
  (if (x13 = Bool.true) then
  (Option.some (((109 : Int), ()), ()))
  else (Option.some (((0 : Int), ()), ())))))))))
def d49_K2 (x10 : (((PT × Unit) × (Int × Unit)) → (Option ((Int × Unit) × Unit)))) : (((PT × Unit) × (Int × Unit)) → (Option ((Int × Unit) × Unit))) :=
  (fun (x14 : ((PT × Unit) × (Int × Unit))) => (x10 ((x14.1.1, ()), ((Go.IntKind.wrap Go.IntKind.i64 (x14.2.1 + (1 : Int))), ()))))
def d49_L3 (x0 : Nat) (x9 : (((PT × Unit) × Unit) → (Option ((Int × Unit) × Unit)))) : ((((PT × Unit) × (Int × Unit)) → (Option ((Int × Unit) × Unit))) → (((PT × Unit) × (Int × Unit)) → (Option ((Int × Unit) × Unit)))) :=
  (fun (x10 : (((PT × Unit) × (Int × Unit)) → (Option ((Int × Unit) × Unit)))) => (fun (x11 : ((PT × Unit) × (Int × Unit))) => (lt (((List.length x11.1.1.2.2.2.2.2.1) : Nat) : Int) fun (x12 : Int) =>
  (lt (Decidable.decide (x11.2.1 < x12)) fun (x13 : Bool) =>
  (if (x13 = Bool.true) then
  (shr (d49_K2 x10) (fun (x14 : (((PT × Unit) × (Int × Unit)) → (Option ((Int × Unit) × Unit)))) => (if (((Decidable.decide ((0 : Int) ≤ x11.2.1)) && (Decidable.decide (x11.2.1 < (((List.length x11.1.1.2.2.2.2.2.1) : Nat) : Int)))) = Bool.true) then
  (lt (List.getD x11.1.1.2.2.2.2.2.1 (Int.toNat x11.2.1) ((0 : Int), ((0 : Int), ((0 : Int), ((0 : Int), ((0 : Int), (Bool.false, ()))))))) fun (x15 : PC) =>
  (Option.bind (d100 x0 (x11.1.1, (x15, ()))) fun (x16 : ((Bool × Unit) × Unit)) =>
  (lt (Bool.not x16.1.1) fun (x17 : Bool) =>
  (if (x17 = Bool.true) then
  (Option.some (((105 : Int), ()), ()))
  else (x14 ((x11.1.1, ()), (x11.2.1, ())))))))
  else (Option.none))))
  else (x9 ((x11.1.1, ()), ())))))))
def d49 : (Nat → ((PT × Unit) → (Option ((Int × Unit) × Unit)))) :=
  (fun (x0 : Nat) => (fun (x1 : (PT × Unit)) => (Option.bind (d97 x0 (x1.1.2.2.1, ((0 : Int), (x1.1.2.1, ())))) fun (x2 : ((Bool × Unit) × Unit)) =>
  (lt (Bool.not x2.1.1) fun (x3 : Bool) =>
  (lt (((List.length x1.1.2.2.2.1) : Nat) : Int) fun (x4 : Int) =>
  (lt (Decidable.decide (x4 > x1.1.2.1)) fun (x5 : Bool) =>
  (lt (if (x3 = Bool.true) then
  Bool.true
  else x5) fun (x6 : Bool) =>
  (if (x6 = Bool.true) then
  (Option.some (((110 : Int), ()), ()))
  else (lt (((List.length x1.1.2.2.2.2.1) : Nat) : Int) fun (x7 : Int) =>
  (lt (x7 == (0 : Int)) fun (x8 : Bool) =>
  (if (x8 = Bool.true) then
  (Option.some (((104 : Int), ()), ()))
  else (shr (d49_K1 x0) (fun (x9 : (((PT × Unit) × Unit) → (Option ((Int × Unit) × Unit)))) => (loopN (d49_L3 x0 x9) x0 ((x1.1, ()), ((0 : Int), ()))))))))))))))))
theorem k49 : c_fn Tryz.prog ⟨[(97, ⟨s97, d97⟩), (100, ⟨s100, d100⟩), (101, ⟨s101, d101⟩), (102, ⟨s102, d102⟩)], ks0⟩ Tryz.f49 s49 h49 = some d49 := by kernel_rfl
/-- bulkhead/bulkheadref10.port -/
def s50 : Sig := ⟨[((.pair (.sl 64 kPT) (.pair (.sl 41 (.pair (.int .i64) (.pair (.int .i64) (.pair .bool (.pair (.int .i64) kI2))))) (.pair (.sl 34 kCH) .unit))), .val), ((.pair (.int .i64) (.pair (.int .i64) (.pair .bool (.pair (.int .i64) kI2)))), .val)], [(.bool, .val)]⟩
 def h50 : Hint := (.seq .leaf
   (.seq (.seq .leaf
   (.cond none
     (.seq .leaf
     .leaf)
     .leaf))
   (.seq (.seq .leaf
   (.cond none
     (.seq .leaf
     .leaf)
     .leaf))
   (.seq (.seq .leaf
   (.cond none
     (.seq .leaf
     .leaf)
     .leaf))
   (.seq .leaf
   .leaf)))))
def d50 : (Nat → ((((List PT) × ((List (Int × (Int × (Bool × (Int × I2))))) × ((List CH) × Unit))) × ((Int × (Int × (Bool × (Int × I2)))) × Unit)) → (Option ((Bool × Unit) × Unit)))) :=
  (fun (x0 : Nat) => (fun (x1 : (((List PT) × ((List (Int × (Int × (Bool × (Int × I2))))) × ((List CH) × Unit))) × ((Int × (Int × (Bool × (Int × I2)))) × Unit))) => (lt (((List.length x1.1.1) : Nat) : Int) fun (x2 : Int) =>
  (Option.bind (d97 x0 (x1.2.1.1, ((1 : Int), (x2, ())))) fun (x3 : ((Bool × Unit) × Unit)) =>
  (lt (Bool.not x3.1.1) fun (x4 : Bool) =>
  (Option.bind (if (((x4 == Bool.false) && Bool.true) = Bool.true) then
  (d97 x0 (x1.2.1.2.1, ((0 : Int), ((1 : Int), ()))))
  else (Option.some ((Bool.false, ()), ()))) fun (x5 : ((Bool × Unit) × Unit)) =>
  (lt (Bool.not x5.1.1) fun (x6 : Bool) =>
  (lt (if (x4 = Bool.true) then
  Bool.true
  else x6) fun (x7 : Bool) =>
  (Option.bind (if (((x7 == Bool.false) && Bool.true) = Bool.true) then
  (d97 x0 (x1.2.1.2.2.2.1, ((1 : Int), ((16 : Int), ()))))
  else (Option.some ((Bool.false, ()), ()))) fun (x8 : ((Bool × Unit) × Unit)) =>
  (lt (Bool.not x8.1.1) fun (x9 : Bool) =>
  (lt (if (x7 = Bool.true) then
  Bool.true
  else x9) fun (x10 : Bool) =>
  (if (x10 = Bool.true) then
  (Option.some ((Bool.false, ()), ()))
  else (lt (x1.2.1.2.1 == (1 : Int)) fun (x11 : Bool) =>
  (if (x11 = Bool.true) then
  (Option.bind (d97 x0 (x1.2.1.2.2.2.2.1, ((1 : Int), ((64 : Int), ())))) fun (x12 : ((Bool × Unit) × Unit)) =>
  (lt (x1.2.1.2.2.2.2.2.1 == (0 : Int)) fun (x13 : Bool) =>
  (Option.some (((if (x12.1.1 = Bool.true) then
  x13
  else Bool.false), ()), ()))))
  else (if (x1.2.1.2.2.1 = Bool.true) then
  (lt (x1.2.1.2.2.2.2.1 == (0 : Int)) fun (x12 : Bool) =>
  (lt (x1.2.1.2.2.2.2.2.1 == (0 : Int)) fun (x13 : Bool) =>
  (Option.some (((if (x12 = Bool.true) then
  x13
  else Bool.false), ()), ()))))
  else (lt (x1.2.1.2.2.2.2.1 == (0 : Int)) fun (x12 : Bool) =>
  (Option.bind (if (((x12 == Bool.true) && Bool.true) = Bool.true) then
  (d97 x0 (x1.2.1.2.2.2.2.2.1, ((0 : Int), ((1099511627775 : Int), ()))))
  else (Option.some ((Bool.false, ()), ()))) fun (x13 : ((Bool × Unit) × Unit)) =>
  (Option.some (((if (x12 = Bool.true) then
  x13.1.1
  else Bool.false), ()), ())))))))))))))))))))
theorem k50 : c_fn Tryz.prog ⟨[(97, ⟨s97, d97⟩)], ks0⟩ Tryz.f50 s50 h50 = some d50 := by kernel_rfl
/-- bulkhead/bulkheadref10.fed -/
def s137 : Sig := ⟨[((.pair (.sl 64 kPT) (.pair (.sl 41 (.pair (.int .i64) (.pair (.int .i64) (.pair .bool (.pair (.int .i64) kI2))))) (.pair (.sl 34 kCH) .unit))), .val), ((.int .i64), .val), ((.int .i64), .val), (.bool, .val)], [(.bool, .val)]⟩
 def h137 : Hint := (.seq .leaf
   (.seq (.seq .leaf
   (.block ⟨[], []⟩ true
     (.loop ⟨[((.ptr 26 (.pair (.sl 64 kPT) (.pair (.sl 41 (.pair (.int .i64) (.pair (.int .i64) (.pair .bool (.pair (.int .i64) kI2))))) (.pair (.sl 34 kCH) .unit)))), (.ow .sh), (4, 0))], [((2, 0), (.val (.int .i64))), ((9, 0), (.val (.int .i64))), ((3, 0), (.val .bool)), ((4, 0), (.own 0)), ((1, 0), (.val (.int .i64)))]⟩
       (.seq (.seq .leaf
       (.cond none
         .leaf
         .leaf))
       (.seq (.block ⟨[((.ptr 26 (.pair (.sl 64 kPT) (.pair (.sl 41 (.pair (.int .i64) (.pair (.int .i64) (.pair .bool (.pair (.int .i64) kI2))))) (.pair (.sl 34 kCH) .unit)))), (.ow .sh), (4, 0))], [((2, 0), (.val (.int .i64))), ((3, 0), (.val .bool)), ((4, 0), (.own 0)), ((1, 0), (.val (.int .i64))), ((9, 0), (.val (.int .i64)))]⟩ true
         (.seq .leaf
         (.seq (.seq .leaf
         (.cond none
           (.seq .leaf
           .leaf)
           .leaf))
         (.seq .leaf
         (.block ⟨[((.ptr 26 (.pair (.sl 64 kPT) (.pair (.sl 41 (.pair (.int .i64) (.pair (.int .i64) (.pair .bool (.pair (.int .i64) kI2))))) (.pair (.sl 34 kCH) .unit)))), (.ow .sh), (4, 0))], [((2, 0), (.val (.int .i64))), ((3, 0), (.val .bool)), ((4, 0), (.own 0)), ((1, 0), (.val (.int .i64))), ((9, 0), (.val (.int .i64)))]⟩ true
           (.loop ⟨[((.ptr 34 kCH), (.ow .sh), (10, 0)), ((.ptr 26 (.pair (.sl 64 kPT) (.pair (.sl 41 (.pair (.int .i64) (.pair (.int .i64) (.pair .bool (.pair (.int .i64) kI2))))) (.pair (.sl 34 kCH) .unit)))), (.ow .sh), (4, 0))], [((11, 0), (.val (.int .i64))), ((2, 0), (.val (.int .i64))), ((10, 0), (.own 0)), ((3, 0), (.val .bool)), ((4, 0), (.own 1)), ((1, 0), (.val (.int .i64))), ((9, 0), (.val (.int .i64)))]⟩
             (.seq (.seq .leaf
             (.cond none
               .leaf
               .leaf))
             (.seq (.block ⟨[((.ptr 34 kCH), (.ow .sh), (10, 0)), ((.ptr 26 (.pair (.sl 64 kPT) (.pair (.sl 41 (.pair (.int .i64) (.pair (.int .i64) (.pair .bool (.pair (.int .i64) kI2))))) (.pair (.sl 34 kCH) .unit)))), (.ow .sh), (4, 0))], [((2, 0), (.val (.int .i64))), ((10, 0), (.own 0)), ((3, 0), (.val .bool)), ((4, 0), (.own 1)), ((1, 0), (.val (.int .i64))), ((9, 0), (.val (.int .i64))), ((11, 0), (.val (.int .i64)))]⟩ true
               (.seq .leaf
               (.cond none
                 (.seq .leaf
                 .leaf)
                 .leaf)))
             .leaf))))))))
       .leaf)))))
   (.seq .leaf
   .leaf)))
def d137_K1 (x3 : (((((List PT) × ((List (Int × (Int × (Bool × (Int × I2))))) × ((List CH) × Unit))) × Unit) × (Int × (Int × (Bool × (Int × Unit))))) → (Option ((Bool × Unit) × Unit)))) : (((((List PT) × ((List (Int × (Int × (Bool × (Int × I2))))) × ((List CH) × Unit))) × Unit) × (Int × (Bool × I2))) → (Option ((Bool × Unit) × Unit))) :=
  (fun (x6 : ((((List PT) × ((List (Int × (Int × (Bool × (Int × I2))))) × ((List CH) × Unit))) × Unit) × (Int × (Bool × I2)))) => (x3 ((x6.1.1, ()), (x6.2.1, ((Go.IntKind.wrap Go.IntKind.i64 (x6.2.2.2.2.1 + (1 : Int))), (x6.2.2.1, (x6.2.2.2.1, ())))))))
def d137_K2 (x6 : (((((List PT) × ((List (Int × (Int × (Bool × (Int × I2))))) × ((List CH) × Unit))) × Unit) × (Int × (Bool × I2))) → (Option ((Bool × Unit) × Unit)))) : (((((List PT) × ((List (Int × (Int × (Bool × (Int × I2))))) × ((List CH) × Unit))) × Unit) × (Int × (Bool × I2))) → (Option ((Bool × Unit) × Unit))) :=
  (fun (x10 : ((((List PT) × ((List (Int × (Int × (Bool × (Int × I2))))) × ((List CH) × Unit))) × Unit) × (Int × (Bool × I2)))) => (x6 ((x10.1.1, ()), (x10.2.1, (x10.2.2.1, (x10.2.2.2.1, (x10.2.2.2.2.1, ())))))))
def d137_K3 (x11 : (((CH × (((List PT) × ((List (Int × (Int × (Bool × (Int × I2))))) × ((List CH) × Unit))) × Unit)) × (Int × (Int × (Bool × I2)))) → (Option ((Bool × Unit) × Unit)))) : (((CH × (((List PT) × ((List (Int × (Int × (Bool × (Int × I2))))) × ((List CH) × Unit))) × Unit)) × (Int × (Bool × (Int × I2)))) → (Option ((Bool × Unit) × Unit))) :=
  (fun (x17 : ((CH × (((List PT) × ((List (Int × (Int × (Bool × (Int × I2))))) × ((List CH) × Unit))) × Unit)) × (Int × (Bool × (Int × I2))))) => (x11 ((x17.1.1, (x17.1.2.1, ())), ((Go.IntKind.wrap Go.IntKind.i64 (x17.2.2.2.2.2.1 + (1 : Int))), (x17.2.1, (x17.2.2.1, (x17.2.2.2.1, (x17.2.2.2.2.1, ()))))))))
def d137_L4 (x10 : (((((List PT) × ((List (Int × (Int × (Bool × (Int × I2))))) × ((List CH) × Unit))) × Unit) × (Int × (Bool × I2))) → (Option ((Bool × Unit) × Unit)))) : ((((CH × (((List PT) × ((List (Int × (Int × (Bool × (Int × I2))))) × ((List CH) × Unit))) × Unit)) × (Int × (Int × (Bool × I2)))) → (Option ((Bool × Unit) × Unit))) → (((CH × (((List PT) × ((List (Int × (Int × (Bool × (Int × I2))))) × ((List CH) × Unit))) × Unit)) × (Int × (Int × (Bool × I2)))) → (Option ((Bool × Unit) × Unit)))) :=
  (fun (x11 : (((CH × (((List PT) × ((List (Int × (Int × (Bool × (Int × I2))))) × ((List CH) × Unit))) × Unit)) × (Int × (Int × (Bool × I2)))) → (Option ((Bool × Unit) × Unit)))) => (fun (x12 : ((CH × (((List PT) × ((List (Int × (Int × (Bool × (Int × I2))))) × ((List CH) × Unit))) × Unit)) × (Int × (Int × (Bool × I2))))) => (lt (((List.length x12.1.1.2.2.1) : Nat) : Int) fun (x13 : Int) =>
  (lt (Decidable.decide (x12.2.1 < x13)) fun (x14 : Bool) =>
  (lt (Bool.not x12.2.2.2.1) fun (x15 : Bool) =>
  (lt (if (x14 = Bool.true) then
  x15
  else Bool.false) fun (x16 : Bool) =>
  (if (x16 = Bool.true) then
  (shr (d137_K3 x11) (fun (x17 : (((CH × (((List PT) × ((List (Int × (Int × (Bool × (Int × I2))))) × ((List CH) × Unit))) × Unit)) × (Int × (Bool × (Int × I2)))) → (Option ((Bool × Unit) × Unit)))) => (if (((Decidable.decide ((0 : Int) ≤ x12.2.1)) && (Decidable.decide (x12.2.1 < (((List.length x12.1.1.2.2.1) : Nat) : Int)))) = Bool.true) then
  (lt (List.getD x12.1.1.2.2.1 (Int.toNat x12.2.1) (0 : Int)) fun (x18 : Int) =>
  (lt (x18 == x12.2.2.1) fun (x19 : Bool) =>
  (if (x19 = Bool.true) then
  (Option.some ((Bool.true, ()), ()))
  else (x17 ((x12.1.1, (x12.1.2.1, ())), (x12.2.2.1, (x12.2.2.2.1, (x12.2.2.2.2.1, (x12.2.2.2.2.2.1, (x12.2.1, ()))))))))))
  else (Option.none))))
  else (x10 ((x12.1.2.1, ()), (x12.2.2.1, (x12.2.2.2.1, (x12.2.2.2.2.1, (x12.2.2.2.2.2.1, ())))))))))))))
def d137_L5 (x0 : Nat) (x2 : ((Unit × Unit) → (Option ((Bool × Unit) × Unit)))) : ((((((List PT) × ((List (Int × (Int × (Bool × (Int × I2))))) × ((List CH) × Unit))) × Unit) × (Int × (Int × (Bool × (Int × Unit))))) → (Option ((Bool × Unit) × Unit))) → (((((List PT) × ((List (Int × (Int × (Bool × (Int × I2))))) × ((List CH) × Unit))) × Unit) × (Int × (Int × (Bool × (Int × Unit))))) → (Option ((Bool × Unit) × Unit)))) :=
  (fun (x3 : (((((List PT) × ((List (Int × (Int × (Bool × (Int × I2))))) × ((List CH) × Unit))) × Unit) × (Int × (Int × (Bool × (Int × Unit))))) → (Option ((Bool × Unit) × Unit)))) => (fun (x4 : ((((List PT) × ((List (Int × (Int × (Bool × (Int × I2))))) × ((List CH) × Unit))) × Unit) × (Int × (Int × (Bool × (Int × Unit)))))) => (lt (Decidable.decide (x4.2.2.1 < x4.2.2.2.2.1)) fun (x5 : Bool) =>
  (if (x5 = Bool.true) then
  (shr (d137_K1 x3) (fun (x6 : (((((List PT) × ((List (Int × (Int × (Bool × (Int × I2))))) × ((List CH) × Unit))) × Unit) × (Int × (Bool × I2))) → (Option ((Bool × Unit) × Unit)))) => (if (((Decidable.decide ((0 : Int) ≤ x4.2.2.1)) && (Decidable.decide (x4.2.2.1 < (((List.length x4.1.1.2.2.1) : Nat) : Int)))) = Bool.true) then
  (lt (List.getD x4.1.1.2.2.1 (Int.toNat x4.2.2.1) ((0 : Int), ((0 : Int), (([] : List Int), ((0 : Int), ((0 : Int), ())))))) fun (x7 : CH) =>
  (lt (x7.2.1 == x4.2.1) fun (x8 : Bool) =>
  (lt (if (x4.2.2.2.1 = Bool.true) then
  x8
  else Bool.false) fun (x9 : Bool) =>
  (if (x9 = Bool.true) then
  (Option.some ((Bool.true, ()), ()))
  else (shr (d137_K2 x6) (fun (x10 : (((((List PT) × ((List (Int × (Int × (Bool × (Int × I2))))) × ((List CH) × Unit))) × Unit) × (Int × (Bool × I2))) → (Option ((Bool × Unit) × Unit)))) => (loopN (d137_L4 x10) x0 ((x7, (x4.1.1, ())), ((0 : Int), (x4.2.1, (x4.2.2.2.1, (x4.2.2.2.2.1, (x4.2.2.1, ())))))))))))))
  else (Option.none))))
  else (x2 ((), ()))))))
def d137 : (Nat → ((((List PT) × ((List (Int × (Int × (Bool × (Int × I2))))) × ((List CH) × Unit))) × (Int × (Int × (Bool × Unit)))) → (Option ((Bool × Unit) × Unit)))) :=
  (fun (x0 : Nat) => (fun (x1 : (((List PT) × ((List (Int × (Int × (Bool × (Int × I2))))) × ((List CH) × Unit))) × (Int × (Int × (Bool × Unit))))) => (shr (fun (x2 : (Unit × Unit)) => (Option.some ((Bool.false, ()), ()))) (fun (x2 : ((Unit × Unit) → (Option ((Bool × Unit) × Unit)))) => (loopN (d137_L5 x0 x2) x0 ((x1.1, ()), (x1.2.2.1, ((0 : Int), (x1.2.2.2.1, (x1.2.1, ()))))))))))
theorem k137 : c_fn Tryz.prog ⟨[], ks0⟩ Tryz.f137 s137 h137 = some d137 := by kernel_rfl
/-- bulkhead/bulkheadref10.from -/
def s103 : Sig := ⟨[((.pair (.sl 64 kPT) (.pair (.sl 41 (.pair (.int .i64) (.pair (.int .i64) (.pair .bool (.pair (.int .i64) kI2))))) (.pair (.sl 34 kCH) .unit))), .val), ((.int .i64), .val)], [(.bool, .val)]⟩
 def h103 : Hint := (.seq .leaf
   (.seq .leaf
   (.seq (.seq .leaf
   (.cond none
     (.seq .leaf
     .leaf)
     .leaf))
   (.seq (.seq .leaf
   (.cond none
     (.seq .leaf
     .leaf)
     .leaf))
   (.seq .leaf
   (.seq .leaf
   .leaf))))))
def d103 : (Nat → ((((List PT) × ((List (Int × (Int × (Bool × (Int × I2))))) × ((List CH) × Unit))) × (Int × Unit)) → (Option ((Bool × Unit) × Unit)))) :=
  (fun (x0 : Nat) => (fun (x1 : (((List PT) × ((List (Int × (Int × (Bool × (Int × I2))))) × ((List CH) × Unit))) × (Int × Unit))) => (if (((Decidable.decide ((0 : Int) ≤ x1.2.1)) && (Decidable.decide (x1.2.1 < (((List.length x1.1.2.2.1) : Nat) : Int)))) = Bool.true) then
  (lt (List.getD x1.1.2.2.1 (Int.toNat x1.2.1) ((0 : Int), ((0 : Int), (([] : List Int), ((0 : Int), ((0 : Int), ())))))) fun (x2 : CH) =>
  (lt (x2.2.1 == (0 : Int)) fun (x3 : Bool) =>
  (if (x3 = Bool.true) then
  (lt (((List.length x2.2.2.1) : Nat) : Int) fun (x4 : Int) =>
  (Option.some (((Decidable.decide (x4 > (0 : Int))), ()), ())))
  else (lt (((List.length x1.1.2.1) : Nat) : Int) fun (x4 : Int) =>
  (Option.bind (d97 x0 (x2.2.1, ((1 : Int), (x4, ())))) fun (x5 : ((Bool × Unit) × Unit)) =>
  (lt (Bool.not x5.1.1) fun (x6 : Bool) =>
  (if (x6 = Bool.true) then
  (Option.some ((Bool.false, ()), ()))
  else (lt (Go.IntKind.wrap Go.IntKind.i64 (x2.2.1 - (1 : Int))) fun (x7 : Int) =>
  (if (((Decidable.decide ((0 : Int) ≤ x7)) && (Decidable.decide (x7 < (((List.length x1.1.2.1) : Nat) : Int)))) = Bool.true) then
  (lt (List.getD x1.1.2.1 (Int.toNat x7) ((0 : Int), ((0 : Int), (Bool.false, ((0 : Int), ((0 : Int), ((0 : Int), ()))))))) fun (x8 : (Int × (Int × (Bool × (Int × I2))))) =>
  (lt (x8.2.1 == x2.1) fun (x9 : Bool) =>
  (lt (if (x8.2.2.1 = Bool.true) then
  x9
  else Bool.false) fun (x10 : Bool) =>
  (Option.bind (if (((x10 == Bool.true) && Bool.true) = Bool.true) then
  (d137 x0 (x1.1, (x1.2.1, (x2.2.1, (Bool.true, ())))))
  else (Option.some ((Bool.false, ()), ()))) fun (x11 : ((Bool × Unit) × Unit)) =>
  (lt (Bool.not x11.1.1) fun (x12 : Bool) =>
  (Option.some (((if (x10 = Bool.true) then
  x12
  else Bool.false), ()), ())))))))
  else (Option.none))))))))))
  else (Option.none))))
theorem k103 : c_fn Tryz.prog ⟨[(97, ⟨s97, d97⟩), (137, ⟨s137, d137⟩)], ks0⟩ Tryz.f103 s103 h103 = some d103 := by kernel_rfl
/-- bulkhead/bulkheadref10.to -/
def s104 : Sig := ⟨[((.pair (.sl 64 kPT) (.pair (.sl 41 (.pair (.int .i64) (.pair (.int .i64) (.pair .bool (.pair (.int .i64) kI2))))) (.pair (.sl 34 kCH) .unit))), .val), ((.int .i64), .val)], [(.bool, .val)]⟩
 def h104 : Hint := (.seq .leaf
   (.seq .leaf
   (.seq .leaf
   (.seq (.seq .leaf
   (.cond (some ⟨[((.ptr 34 kCH), (.ow .sh), (5, 0)), ((.ptr 26 (.pair (.sl 64 kPT) (.pair (.sl 41 (.pair (.int .i64) (.pair (.int .i64) (.pair .bool (.pair (.int .i64) kI2))))) (.pair (.sl 34 kCH) .unit)))), (.ow .sh), (2, 0))], [((5, 0), (.own 0)), ((1, 0), (.val (.int .i64))), ((2, 0), (.own 1)), ((6, 0), (.val (.int .i64)))]⟩)
     .leaf
     .leaf))
   (.seq (.seq .leaf
   (.block ⟨[], []⟩ true
     (.loop ⟨[((.ptr 34 kCH), (.ow .sh), (5, 0)), ((.ptr 26 (.pair (.sl 64 kPT) (.pair (.sl 41 (.pair (.int .i64) (.pair (.int .i64) (.pair .bool (.pair (.int .i64) kI2))))) (.pair (.sl 34 kCH) .unit)))), (.ow .sh), (2, 0))], [((7, 0), (.val (.int .i64))), ((5, 0), (.own 0)), ((1, 0), (.val (.int .i64))), ((2, 0), (.own 1)), ((6, 0), (.val (.int .i64)))]⟩
       (.seq (.seq .leaf
       (.cond none
         .leaf
         .leaf))
       (.seq (.block ⟨[((.ptr 34 kCH), (.ow .sh), (5, 0)), ((.ptr 26 (.pair (.sl 64 kPT) (.pair (.sl 41 (.pair (.int .i64) (.pair (.int .i64) (.pair .bool (.pair (.int .i64) kI2))))) (.pair (.sl 34 kCH) .unit)))), (.ow .sh), (2, 0))], [((5, 0), (.own 0)), ((1, 0), (.val (.int .i64))), ((2, 0), (.own 1)), ((6, 0), (.val (.int .i64))), ((7, 0), (.val (.int .i64)))]⟩ true
         (.seq (.seq .leaf
         (.cond none
           (.seq .leaf
           .leaf)
           .leaf))
         (.seq .leaf
         (.seq (.seq .leaf
         (.cond (some ⟨[((.ptr 34 kCH), (.ow .sh), (5, 0)), ((.ptr 26 (.pair (.sl 64 kPT) (.pair (.sl 41 (.pair (.int .i64) (.pair (.int .i64) (.pair .bool (.pair (.int .i64) kI2))))) (.pair (.sl 34 kCH) .unit)))), (.ow .sh), (2, 0)), ((.ptr 41 (.pair (.int .i64) (.pair (.int .i64) (.pair .bool (.pair (.int .i64) kI2))))), (.ow .sh), (8, 0))], [((5, 0), (.own 0)), ((1, 0), (.val (.int .i64))), ((2, 0), (.own 1)), ((6, 0), (.val (.int .i64))), ((7, 0), (.val (.int .i64))), ((8, 0), (.own 2))]⟩)
           .leaf
           .leaf))
         (.seq .leaf
         (.cond none
           (.seq .leaf
           .leaf)
           .leaf))))))
       .leaf)))))
   (.seq .leaf
   .leaf))))))
def d104_K1 (x6 : (((CH × (((List PT) × ((List (Int × (Int × (Bool × (Int × I2))))) × ((List CH) × Unit))) × Unit)) × (Int × I2)) → (Option ((Bool × Unit) × Unit)))) : (((CH × (((List PT) × ((List (Int × (Int × (Bool × (Int × I2))))) × ((List CH) × Unit))) × Unit)) × (Int × I2)) → (Option ((Bool × Unit) × Unit))) :=
  (fun (x10 : ((CH × (((List PT) × ((List (Int × (Int × (Bool × (Int × I2))))) × ((List CH) × Unit))) × Unit)) × (Int × I2))) => (x6 ((x10.1.1, (x10.1.2.1, ())), ((Go.IntKind.wrap Go.IntKind.i64 (x10.2.2.2.1 + (1 : Int))), (x10.2.1, (x10.2.2.1, ()))))))
def d104_K2 (x0 : Nat) (x10 : (((CH × (((List PT) × ((List (Int × (Int × (Bool × (Int × I2))))) × ((List CH) × Unit))) × Unit)) × (Int × I2)) → (Option ((Bool × Unit) × Unit)))) : (((CH × (((List PT) × ((List (Int × (Int × (Bool × (Int × I2))))) × ((List CH) × Unit))) × ((Int × (Int × (Bool × (Int × I2)))) × Unit))) × (Int × I2)) → (Option ((Bool × Unit) × Unit))) :=
  (fun (x26 : ((CH × (((List PT) × ((List (Int × (Int × (Bool × (Int × I2))))) × ((List CH) × Unit))) × ((Int × (Int × (Bool × (Int × I2)))) × Unit))) × (Int × I2))) => (lt (x26.1.2.2.1.2.1 != x26.1.1.1) fun (x27 : Bool) =>
  (lt (if (x26.1.2.2.1.2.2.1 = Bool.true) then
  Bool.true
  else x27) fun (x28 : Bool) =>
  (lt (x26.1.2.2.1.2.2.2.1 != x26.2.2.1) fun (x29 : Bool) =>
  (lt (if (x28 = Bool.true) then
  Bool.true
  else x29) fun (x30 : Bool) =>
  (if (((Bool.not ((x30 == Bool.false) && Bool.true)) || ((Decidable.decide ((0 : Int) ≤ x26.2.2.2.1)) && (Decidable.decide (x26.2.2.2.1 < (((List.length x26.1.1.2.2.1) : Nat) : Int))))) = Bool.true) then
  (lt (List.getD x26.1.1.2.2.1 (Int.toNat x26.2.2.2.1) (0 : Int)) fun (x31 : Int) =>
  (Option.bind (if (((x30 == Bool.false) && Bool.true) = Bool.true) then
  (d137 x0 (x26.1.2.1, (x26.2.1, (x31, (Bool.false, ())))))
  else (Option.some ((Bool.false, ()), ()))) fun (x32 : ((Bool × Unit) × Unit)) =>
  (lt (if (x30 = Bool.true) then
  Bool.true
  else x32.1.1) fun (x33 : Bool) =>
  (if (x33 = Bool.true) then
  (Option.some ((Bool.false, ()), ()))
  else (x10 ((x26.1.1, (x26.1.2.1, ())), (x26.2.1, (x26.2.2.1, (x26.2.2.2.1, ())))))))))
  else (Option.none)))))))
def d104_L3 (x0 : Nat) (x5 : ((Unit × Unit) → (Option ((Bool × Unit) × Unit)))) : ((((CH × (((List PT) × ((List (Int × (Int × (Bool × (Int × I2))))) × ((List CH) × Unit))) × Unit)) × (Int × I2)) → (Option ((Bool × Unit) × Unit))) → (((CH × (((List PT) × ((List (Int × (Int × (Bool × (Int × I2))))) × ((List CH) × Unit))) × Unit)) × (Int × I2)) → (Option ((Bool × Unit) × Unit)))) :=
  (fun (x6 : (((CH × (((List PT) × ((List (Int × (Int × (Bool × (Int × I2))))) × ((List CH) × Unit))) × Unit)) × (Int × I2)) → (Option ((Bool × Unit) × Unit)))) => (fun (x7 : ((CH × (((List PT) × ((List (Int × (Int × (Bool × (Int × I2))))) × ((List CH) × Unit))) × Unit)) × (Int × I2))) => (lt (((List.length x7.1.1.2.2.1) : Nat) : Int) fun (x8 : Int) =>
  (lt (Decidable.decide (x7.2.1 < x8)) fun (x9 : Bool) =>
  (if (x9 = Bool.true) then
  (shr (d104_K1 x6) (fun (x10 : (((CH × (((List PT) × ((List (Int × (Int × (Bool × (Int × I2))))) × ((List CH) × Unit))) × Unit)) × (Int × I2)) → (Option ((Bool × Unit) × Unit)))) => (if (((Decidable.decide ((0 : Int) ≤ x7.2.1)) && (Decidable.decide (x7.2.1 < (((List.length x7.1.1.2.2.1) : Nat) : Int)))) = Bool.true) then
  (lt (List.getD x7.1.1.2.2.1 (Int.toNat x7.2.1) (0 : Int)) fun (x11 : Int) =>
  (lt (((List.length x7.1.2.1.2.1) : Nat) : Int) fun (x12 : Int) =>
  (Option.bind (d97 x0 (x11, ((1 : Int), (x12, ())))) fun (x13 : ((Bool × Unit) × Unit)) =>
  (lt (Bool.not x13.1.1) fun (x14 : Bool) =>
  (lt (Decidable.decide (x7.2.1 > (0 : Int))) fun (x15 : Bool) =>
  (if (((Bool.not ((x15 == Bool.true) && ((x14 == Bool.false) && Bool.true))) || ((Decidable.decide ((0 : Int) ≤ x7.2.1)) && (Decidable.decide (x7.2.1 < (((List.length x7.1.1.2.2.1) : Nat) : Int))))) = Bool.true) then
  (lt (List.getD x7.1.1.2.2.1 (Int.toNat x7.2.1) (0 : Int)) fun (x16 : Int) =>
  (lt (Go.IntKind.wrap Go.IntKind.i64 (x7.2.1 - (1 : Int))) fun (x17 : Int) =>
  (if (((Bool.not ((x15 == Bool.true) && ((x14 == Bool.false) && Bool.true))) || ((Decidable.decide ((0 : Int) ≤ x17)) && (Decidable.decide (x17 < (((List.length x7.1.1.2.2.1) : Nat) : Int))))) = Bool.true) then
  (lt (List.getD x7.1.1.2.2.1 (Int.toNat x17) (0 : Int)) fun (x18 : Int) =>
  (lt (Decidable.decide (x16 ≤ x18)) fun (x19 : Bool) =>
  (lt (if (x15 = Bool.true) then
  x19
  else Bool.false) fun (x20 : Bool) =>
  (lt (if (x14 = Bool.true) then
  Bool.true
  else x20) fun (x21 : Bool) =>
  (if (x21 = Bool.true) then
  (Option.some ((Bool.false, ()), ()))
  else (if (((Decidable.decide ((0 : Int) ≤ x7.2.1)) && (Decidable.decide (x7.2.1 < (((List.length x7.1.1.2.2.1) : Nat) : Int)))) = Bool.true) then
  (lt (List.getD x7.1.1.2.2.1 (Int.toNat x7.2.1) (0 : Int)) fun (x22 : Int) =>
  (lt (Go.IntKind.wrap Go.IntKind.i64 (x22 - (1 : Int))) fun (x23 : Int) =>
  (if (((Decidable.decide ((0 : Int) ≤ x23)) && (Decidable.decide (x23 < (((List.length x7.1.2.1.2.1) : Nat) : Int)))) = Bool.true) then
  (lt (List.getD x7.1.2.1.2.1 (Int.toNat x23) ((0 : Int), ((0 : Int), (Bool.false, ((0 : Int), ((0 : Int), ((0 : Int), ()))))))) fun (x24 : (Int × (Int × (Bool × (Int × I2))))) =>
  (lt (x7.2.2.2.1 == (0 : Int)) fun (x25 : Bool) =>
  (shr (d104_K2 x0 x10) (fun (x26 : (((CH × (((List PT) × ((List (Int × (Int × (Bool × (Int × I2))))) × ((List CH) × Unit))) × ((Int × (Int × (Bool × (Int × I2)))) × Unit))) × (Int × I2)) → (Option ((Bool × Unit) × Unit)))) => (if (x25 = Bool.true) then
  (x26 ((x7.1.1, (x7.1.2.1, (x24, ()))), (x7.2.2.1, (x24.2.2.2.1, (x7.2.1, ())))))
  else (x26 ((x7.1.1, (x7.1.2.1, (x24, ()))), (x7.2.2.1, (x7.2.2.2.1, (x7.2.1, ()))))))))))
  else (Option.none))))
  else (Option.none)))))))
  else (Option.none))))
  else (Option.none)))))))
  else (Option.none))))
  else (x5 ((), ())))))))
def d104_K4 (x0 : Nat) : (((CH × (((List PT) × ((List (Int × (Int × (Bool × (Int × I2))))) × ((List CH) × Unit))) × Unit)) × I2) → (Option ((Bool × Unit) × Unit))) :=
  (fun (x4 : ((CH × (((List PT) × ((List (Int × (Int × (Bool × (Int × I2))))) × ((List CH) × Unit))) × Unit)) × I2)) => (shr (fun (x5 : (Unit × Unit)) => (Option.some ((Bool.true, ()), ()))) (fun (x5 : ((Unit × Unit) → (Option ((Bool × Unit) × Unit)))) => (loopN (d104_L3 x0 x5) x0 ((x4.1.1, (x4.1.2.1, ())), ((0 : Int), (x4.2.1, (x4.2.2.1, ()))))))))
def d104 : (Nat → ((((List PT) × ((List (Int × (Int × (Bool × (Int × I2))))) × ((List CH) × Unit))) × (Int × Unit)) → (Option ((Bool × Unit) × Unit)))) :=
  (fun (x0 : Nat) => (fun (x1 : (((List PT) × ((List (Int × (Int × (Bool × (Int × I2))))) × ((List CH) × Unit))) × (Int × Unit))) => (if (((Decidable.decide ((0 : Int) ≤ x1.2.1)) && (Decidable.decide (x1.2.1 < (((List.length x1.1.2.2.1) : Nat) : Int)))) = Bool.true) then
  (lt (List.getD x1.1.2.2.1 (Int.toNat x1.2.1) ((0 : Int), ((0 : Int), (([] : List Int), ((0 : Int), ((0 : Int), ())))))) fun (x2 : CH) =>
  (lt (Decidable.decide (x2.2.1 > (0 : Int))) fun (x3 : Bool) =>
  (shr (d104_K4 x0) (fun (x4 : (((CH × (((List PT) × ((List (Int × (Int × (Bool × (Int × I2))))) × ((List CH) × Unit))) × Unit)) × I2) → (Option ((Bool × Unit) × Unit)))) => (if (x3 = Bool.true) then
  (lt (Go.IntKind.wrap Go.IntKind.i64 (x2.2.1 - (1 : Int))) fun (x5 : Int) =>
  (if (((Decidable.decide ((0 : Int) ≤ x5)) && (Decidable.decide (x5 < (((List.length x1.1.2.1) : Nat) : Int)))) = Bool.true) then
  (x4 ((x2, (x1.1, ())), (x1.2.1, ((List.getD x1.1.2.1 (Int.toNat x5) ((0 : Int), ((0 : Int), (Bool.false, ((0 : Int), ((0 : Int), ((0 : Int), ()))))))).2.2.2.1, ()))))
  else (Option.none)))
  else (x4 ((x2, (x1.1, ())), (x1.2.1, ((0 : Int), ())))))))))
  else (Option.none))))
theorem k104 : c_fn Tryz.prog ⟨[(97, ⟨s97, d97⟩), (137, ⟨s137, d137⟩)], ks0⟩ Tryz.f104 s104 h104 = some d104 := by kernel_rfl
/-- bulkhead/bulkheadref10.channel -/
def s51 : Sig := ⟨[((.pair (.sl 64 kPT) (.pair (.sl 41 (.pair (.int .i64) (.pair (.int .i64) (.pair .bool (.pair (.int .i64) kI2))))) (.pair (.sl 34 kCH) .unit))), .val), ((.int .i64), .val)], [(.bool, .val)]⟩
 def h51 : Hint := (.seq .leaf
   (.seq .leaf
   (.seq (.seq .leaf
   (.cond none
     (.seq .leaf
     .leaf)
     .leaf))
   (.seq (.seq .leaf
   (.cond none
     (.seq .leaf
     .leaf)
     .leaf))
   (.seq .leaf
   .leaf)))))
def d51 : (Nat → ((((List PT) × ((List (Int × (Int × (Bool × (Int × I2))))) × ((List CH) × Unit))) × (Int × Unit)) → (Option ((Bool × Unit) × Unit)))) :=
  (fun (x0 : Nat) => (fun (x1 : (((List PT) × ((List (Int × (Int × (Bool × (Int × I2))))) × ((List CH) × Unit))) × (Int × Unit))) => (if (((Decidable.decide ((0 : Int) ≤ x1.2.1)) && (Decidable.decide (x1.2.1 < (((List.length x1.1.2.2.1) : Nat) : Int)))) = Bool.true) then
  (lt (List.getD x1.1.2.2.1 (Int.toNat x1.2.1) ((0 : Int), ((0 : Int), (([] : List Int), ((0 : Int), ((0 : Int), ())))))) fun (x2 : CH) =>
  (Option.bind (d97 x0 (x2.1, ((0 : Int), ((1 : Int), ())))) fun (x3 : ((Bool × Unit) × Unit)) =>
  (lt (Bool.not x3.1.1) fun (x4 : Bool) =>
  (Option.bind (if (((x4 == Bool.false) && Bool.true) = Bool.true) then
  (d103 x0 (x1.1, (x1.2.1, ())))
  else (Option.some ((Bool.false, ()), ()))) fun (x5 : ((Bool × Unit) × Unit)) =>
  (lt (Bool.not x5.1.1) fun (x6 : Bool) =>
  (lt (if (x4 = Bool.true) then
  Bool.true
  else x6) fun (x7 : Bool) =>
  (Option.bind (if (((x7 == Bool.false) && Bool.true) = Bool.true) then
  (d104 x0 (x1.1, (x1.2.1, ())))
  else (Option.some ((Bool.false, ()), ()))) fun (x8 : ((Bool × Unit) × Unit)) =>
  (lt (Bool.not x8.1.1) fun (x9 : Bool) =>
  (lt (if (x7 = Bool.true) then
  Bool.true
  else x9) fun (x10 : Bool) =>
  (if (x10 = Bool.true) then
  (Option.some ((Bool.false, ()), ()))
  else (lt (x2.1 == (1 : Int)) fun (x11 : Bool) =>
  (lt (x2.2.1 != (0 : Int)) fun (x12 : Bool) =>
  (lt (if (x11 = Bool.true) then
  x12
  else Bool.false) fun (x13 : Bool) =>
  (if (x13 = Bool.true) then
  (Option.bind (d97 x0 (x2.2.2.2.2.1, ((1 : Int), ((1048576 : Int), ())))) fun (x14 : ((Bool × Unit) × Unit)) =>
  (lt (Go.IntKind.wrap Go.IntKind.i64 (x2.2.2.2.2.1 - (1 : Int))) fun (x15 : Int) =>
  (Option.bind (if (((x14.1.1 == Bool.true) && Bool.true) = Bool.true) then
  (d97 x0 (x2.2.2.2.1, ((0 : Int), (x15, ()))))
  else (Option.some ((Bool.false, ()), ()))) fun (x16 : ((Bool × Unit) × Unit)) =>
  (Option.some (((if (x14.1.1 = Bool.true) then
  x16.1.1
  else Bool.false), ()), ())))))
  else (lt (x2.2.2.2.2.1 == (0 : Int)) fun (x14 : Bool) =>
  (lt (x2.2.2.2.1 == (0 : Int)) fun (x15 : Bool) =>
  (Option.some (((if (x14 = Bool.true) then
  x15
  else Bool.false), ()), ()))))))))))))))))))
  else (Option.none))))
theorem k51 : c_fn Tryz.prog ⟨[(97, ⟨s97, d97⟩), (103, ⟨s103, d103⟩), (104, ⟨s104, d104⟩)], ks0⟩ Tryz.f51 s51 h51 = some d51 := by kernel_rfl
/-- bulkhead/bulkheadref10.Check -/
def s14 : Sig := ⟨[((.pair (.sl 64 kPT) (.pair (.sl 41 (.pair (.int .i64) (.pair (.int .i64) (.pair .bool (.pair (.int .i64) kI2))))) (.pair (.sl 34 kCH) .unit))), .val)], [((.int .i64), .val), ((.int .i64), .val)]⟩
 def h14 : Hint := (.seq .leaf
   (.seq (.seq .leaf
   (.cond none
     (.seq .leaf
     .leaf)
     .leaf))
   (.seq (.seq .leaf
   (.block ⟨[((.ptr 26 (.pair (.sl 64 kPT) (.pair (.sl 41 (.pair (.int .i64) (.pair (.int .i64) (.pair .bool (.pair (.int .i64) kI2))))) (.pair (.sl 34 kCH) .unit)))), (.ow .sh), (1, 0))], [((1, 0), (.own 0))]⟩ true
     (.loop ⟨[((.ptr 26 (.pair (.sl 64 kPT) (.pair (.sl 41 (.pair (.int .i64) (.pair (.int .i64) (.pair .bool (.pair (.int .i64) kI2))))) (.pair (.sl 34 kCH) .unit)))), (.ow .sh), (1, 0))], [((4, 0), (.val (.int .i64))), ((1, 0), (.own 0))]⟩
       (.seq (.seq .leaf
       (.cond none
         .leaf
         .leaf))
       (.seq (.block ⟨[((.ptr 26 (.pair (.sl 64 kPT) (.pair (.sl 41 (.pair (.int .i64) (.pair (.int .i64) (.pair .bool (.pair (.int .i64) kI2))))) (.pair (.sl 34 kCH) .unit)))), (.ow .sh), (1, 0))], [((1, 0), (.own 0)), ((4, 0), (.val (.int .i64)))]⟩ true
         (.seq .leaf
         (.cond none
           (.seq .leaf
           .leaf)
           .leaf)))
       .leaf)))))
   (.seq .leaf
   (.seq (.seq .leaf
   (.cond none
     (.seq .leaf
     .leaf)
     .leaf))
   (.seq .leaf
   (.seq (.seq .leaf
   (.cond none
     (.seq .leaf
     .leaf)
     .leaf))
   (.seq (.seq .leaf
   (.block ⟨[((.ptr 26 (.pair (.sl 64 kPT) (.pair (.sl 41 (.pair (.int .i64) (.pair (.int .i64) (.pair .bool (.pair (.int .i64) kI2))))) (.pair (.sl 34 kCH) .unit)))), (.ow .sh), (1, 0))], [((1, 0), (.own 0))]⟩ true
     (.loop ⟨[((.ptr 26 (.pair (.sl 64 kPT) (.pair (.sl 41 (.pair (.int .i64) (.pair (.int .i64) (.pair .bool (.pair (.int .i64) kI2))))) (.pair (.sl 34 kCH) .unit)))), (.ow .sh), (1, 0))], [((7, 0), (.val (.int .i64))), ((1, 0), (.own 0))]⟩
       (.seq (.seq .leaf
       (.cond none
         .leaf
         .leaf))
       (.seq (.block ⟨[((.ptr 26 (.pair (.sl 64 kPT) (.pair (.sl 41 (.pair (.int .i64) (.pair (.int .i64) (.pair .bool (.pair (.int .i64) kI2))))) (.pair (.sl 34 kCH) .unit)))), (.ow .sh), (1, 0))], [((1, 0), (.own 0)), ((7, 0), (.val (.int .i64)))]⟩ true
         (.seq .leaf
         (.seq .leaf
         (.cond none
           (.seq .leaf
           .leaf)
           .leaf))))
       .leaf)))))
   (.seq (.seq .leaf
   (.block ⟨[((.ptr 26 (.pair (.sl 64 kPT) (.pair (.sl 41 (.pair (.int .i64) (.pair (.int .i64) (.pair .bool (.pair (.int .i64) kI2))))) (.pair (.sl 34 kCH) .unit)))), (.ow .sh), (1, 0))], [((1, 0), (.own 0))]⟩ true
     (.loop ⟨[((.ptr 26 (.pair (.sl 64 kPT) (.pair (.sl 41 (.pair (.int .i64) (.pair (.int .i64) (.pair .bool (.pair (.int .i64) kI2))))) (.pair (.sl 34 kCH) .unit)))), (.ow .sh), (1, 0))], [((8, 0), (.val (.int .i64))), ((1, 0), (.own 0))]⟩
       (.seq (.seq .leaf
       (.cond none
         .leaf
         .leaf))
       (.seq (.block ⟨[((.ptr 26 (.pair (.sl 64 kPT) (.pair (.sl 41 (.pair (.int .i64) (.pair (.int .i64) (.pair .bool (.pair (.int .i64) kI2))))) (.pair (.sl 34 kCH) .unit)))), (.ow .sh), (1, 0))], [((1, 0), (.own 0)), ((8, 0), (.val (.int .i64)))]⟩ true
         (.seq .leaf
         (.cond none
           (.seq .leaf
           .leaf)
           .leaf)))
       .leaf)))))
   (.seq (.seq .leaf
   (.block ⟨[], []⟩ true
     (.loop ⟨[((.ptr 26 (.pair (.sl 64 kPT) (.pair (.sl 41 (.pair (.int .i64) (.pair (.int .i64) (.pair .bool (.pair (.int .i64) kI2))))) (.pair (.sl 34 kCH) .unit)))), (.ow .sh), (1, 0))], [((9, 0), (.val (.int .i64))), ((1, 0), (.own 0))]⟩
       (.seq (.seq .leaf
       (.cond none
         .leaf
         .leaf))
       (.seq (.block ⟨[((.ptr 26 (.pair (.sl 64 kPT) (.pair (.sl 41 (.pair (.int .i64) (.pair (.int .i64) (.pair .bool (.pair (.int .i64) kI2))))) (.pair (.sl 34 kCH) .unit)))), (.ow .sh), (1, 0))], [((1, 0), (.own 0)), ((9, 0), (.val (.int .i64)))]⟩ true
         (.seq .leaf
         (.cond none
           (.seq .leaf
           .leaf)
           .leaf)))
       .leaf)))))
   (.seq .leaf
   .leaf)))))))))))
def d14_K1  : ((Unit × Unit) → (Option (I2 × Unit))) :=
  (fun (x19 : (Unit × Unit)) => (Option.some (((0 : Int), ((0 : Int), ())), ())))
def d14_K2 (x20 : (((((List PT) × ((List (Int × (Int × (Bool × (Int × I2))))) × ((List CH) × Unit))) × Unit) × (Int × Unit)) → (Option (I2 × Unit)))) : (((((List PT) × ((List (Int × (Int × (Bool × (Int × I2))))) × ((List CH) × Unit))) × Unit) × (Int × Unit)) → (Option (I2 × Unit))) :=
  (fun (x24 : ((((List PT) × ((List (Int × (Int × (Bool × (Int × I2))))) × ((List CH) × Unit))) × Unit) × (Int × Unit))) => (x20 ((x24.1.1, ()), ((Go.IntKind.wrap Go.IntKind.i64 (x24.2.1 + (1 : Int))), ()))))
def d14_L3 (x0 : Nat) (x19 : ((Unit × Unit) → (Option (I2 × Unit)))) : ((((((List PT) × ((List (Int × (Int × (Bool × (Int × I2))))) × ((List CH) × Unit))) × Unit) × (Int × Unit)) → (Option (I2 × Unit))) → (((((List PT) × ((List (Int × (Int × (Bool × (Int × I2))))) × ((List CH) × Unit))) × Unit) × (Int × Unit)) → (Option (I2 × Unit)))) :=
  (fun (x20 : (((((List PT) × ((List (Int × (Int × (Bool × (Int × I2))))) × ((List CH) × Unit))) × Unit) × (Int × Unit)) → (Option (I2 × Unit)))) => (fun (x21 : ((((List PT) × ((List (Int × (Int × (Bool × (Int × I2))))) × ((List CH) × Unit))) × Unit) × (Int × Unit))) => (lt (((List.length x21.1.1.2.2.1) : Nat) : Int) fun (x22 : Int) =>
  (lt (Decidable.decide (x21.2.1 < x22)) fun (x23 : Bool) =>
  (if (x23 = Bool.true) then
  (shr (d14_K2 x20) (fun (x24 : (((((List PT) × ((List (Int × (Int × (Bool × (Int × I2))))) × ((List CH) × Unit))) × Unit) × (Int × Unit)) → (Option (I2 × Unit)))) => (Option.bind (d51 x0 (x21.1.1, (x21.2.1, ()))) fun (x25 : ((Bool × Unit) × Unit)) =>
  (lt (Bool.not x25.1.1) fun (x26 : Bool) =>
  (if (x26 = Bool.true) then
  (Option.some (((108 : Int), ((Go.IntKind.wrap Go.IntKind.i64 (x21.2.1 + (1 : Int))), ())), ()))
  else (x24 ((x21.1.1, ()), (x21.2.1, ()))))))))
  else (x19 ((), ())))))))
def d14_K4 (x0 : Nat) : (((((List PT) × ((List (Int × (Int × (Bool × (Int × I2))))) × ((List CH) × Unit))) × Unit) × Unit) → (Option (I2 × Unit))) :=
  (fun (x18 : ((((List PT) × ((List (Int × (Int × (Bool × (Int × I2))))) × ((List CH) × Unit))) × Unit) × Unit)) => (shr d14_K1 (fun (x19 : ((Unit × Unit) → (Option (I2 × Unit)))) => (loopN (d14_L3 x0 x19) x0 ((x18.1.1, ()), ((0 : Int), ()))))))
def d14_K5 (x19 : (((((List PT) × ((List (Int × (Int × (Bool × (Int × I2))))) × ((List CH) × Unit))) × Unit) × (Int × Unit)) → (Option (I2 × Unit)))) : (((((List PT) × ((List (Int × (Int × (Bool × (Int × I2))))) × ((List CH) × Unit))) × Unit) × (Int × Unit)) → (Option (I2 × Unit))) :=
  (fun (x23 : ((((List PT) × ((List (Int × (Int × (Bool × (Int × I2))))) × ((List CH) × Unit))) × Unit) × (Int × Unit))) => (x19 ((x23.1.1, ()), ((Go.IntKind.wrap Go.IntKind.i64 (x23.2.1 + (1 : Int))), ()))))
def d14_L6 (x0 : Nat) (x18 : (((((List PT) × ((List (Int × (Int × (Bool × (Int × I2))))) × ((List CH) × Unit))) × Unit) × Unit) → (Option (I2 × Unit)))) : ((((((List PT) × ((List (Int × (Int × (Bool × (Int × I2))))) × ((List CH) × Unit))) × Unit) × (Int × Unit)) → (Option (I2 × Unit))) → (((((List PT) × ((List (Int × (Int × (Bool × (Int × I2))))) × ((List CH) × Unit))) × Unit) × (Int × Unit)) → (Option (I2 × Unit)))) :=
  (fun (x19 : (((((List PT) × ((List (Int × (Int × (Bool × (Int × I2))))) × ((List CH) × Unit))) × Unit) × (Int × Unit)) → (Option (I2 × Unit)))) => (fun (x20 : ((((List PT) × ((List (Int × (Int × (Bool × (Int × I2))))) × ((List CH) × Unit))) × Unit) × (Int × Unit))) => (lt (((List.length x20.1.1.2.1) : Nat) : Int) fun (x21 : Int) =>
  (lt (Decidable.decide (x20.2.1 < x21)) fun (x22 : Bool) =>
  (if (x22 = Bool.true) then
  (shr (d14_K5 x19) (fun (x23 : (((((List PT) × ((List (Int × (Int × (Bool × (Int × I2))))) × ((List CH) × Unit))) × Unit) × (Int × Unit)) → (Option (I2 × Unit)))) => (if (((Decidable.decide ((0 : Int) ≤ x20.2.1)) && (Decidable.decide (x20.2.1 < (((List.length x20.1.1.2.1) : Nat) : Int)))) = Bool.true) then
  (lt (List.getD x20.1.1.2.1 (Int.toNat x20.2.1) ((0 : Int), ((0 : Int), (Bool.false, ((0 : Int), ((0 : Int), ((0 : Int), ()))))))) fun (x24 : (Int × (Int × (Bool × (Int × I2))))) =>
  (Option.bind (d50 x0 (x20.1.1, (x24, ()))) fun (x25 : ((Bool × Unit) × Unit)) =>
  (lt (Bool.not x25.1.1) fun (x26 : Bool) =>
  (if (x26 = Bool.true) then
  (Option.some (((107 : Int), ((Go.IntKind.wrap Go.IntKind.i64 (x20.2.1 + (1 : Int))), ())), ()))
  else (x23 ((x20.1.1, ()), (x20.2.1, ())))))))
  else (Option.none))))
  else (x18 ((x20.1.1, ()), ())))))))
def d14_K7 (x0 : Nat) : (((((List PT) × ((List (Int × (Int × (Bool × (Int × I2))))) × ((List CH) × Unit))) × Unit) × Unit) → (Option (I2 × Unit))) :=
  (fun (x17 : ((((List PT) × ((List (Int × (Int × (Bool × (Int × I2))))) × ((List CH) × Unit))) × Unit) × Unit)) => (shr (d14_K4 x0) (fun (x18 : (((((List PT) × ((List (Int × (Int × (Bool × (Int × I2))))) × ((List CH) × Unit))) × Unit) × Unit) → (Option (I2 × Unit)))) => (loopN (d14_L6 x0 x18) x0 ((x17.1.1, ()), ((0 : Int), ()))))))
def d14_K8 (x18 : (((((List PT) × ((List (Int × (Int × (Bool × (Int × I2))))) × ((List CH) × Unit))) × Unit) × (Int × Unit)) → (Option (I2 × Unit)))) : (((((List PT) × ((List (Int × (Int × (Bool × (Int × I2))))) × ((List CH) × Unit))) × Unit) × (Int × Unit)) → (Option (I2 × Unit))) :=
  (fun (x22 : ((((List PT) × ((List (Int × (Int × (Bool × (Int × I2))))) × ((List CH) × Unit))) × Unit) × (Int × Unit))) => (x18 ((x22.1.1, ()), ((Go.IntKind.wrap Go.IntKind.i64 (x22.2.1 + (1 : Int))), ()))))
def d14_L9 (x0 : Nat) (x17 : (((((List PT) × ((List (Int × (Int × (Bool × (Int × I2))))) × ((List CH) × Unit))) × Unit) × Unit) → (Option (I2 × Unit)))) : ((((((List PT) × ((List (Int × (Int × (Bool × (Int × I2))))) × ((List CH) × Unit))) × Unit) × (Int × Unit)) → (Option (I2 × Unit))) → (((((List PT) × ((List (Int × (Int × (Bool × (Int × I2))))) × ((List CH) × Unit))) × Unit) × (Int × Unit)) → (Option (I2 × Unit)))) :=
  (fun (x18 : (((((List PT) × ((List (Int × (Int × (Bool × (Int × I2))))) × ((List CH) × Unit))) × Unit) × (Int × Unit)) → (Option (I2 × Unit)))) => (fun (x19 : ((((List PT) × ((List (Int × (Int × (Bool × (Int × I2))))) × ((List CH) × Unit))) × Unit) × (Int × Unit))) => (lt (((List.length x19.1.1.1) : Nat) : Int) fun (x20 : Int) =>
  (lt (Decidable.decide (x19.2.1 < x20)) fun (x21 : Bool) =>
  (if (x21 = Bool.true) then
  (shr (d14_K8 x18) (fun (x22 : (((((List PT) × ((List (Int × (Int × (Bool × (Int × I2))))) × ((List CH) × Unit))) × Unit) × (Int × Unit)) → (Option (I2 × Unit)))) => (if (((Decidable.decide ((0 : Int) ≤ x19.2.1)) && (Decidable.decide (x19.2.1 < (((List.length x19.1.1.1) : Nat) : Int)))) = Bool.true) then
  (lt (List.getD x19.1.1.1 (Int.toNat x19.2.1) (((0 : Int), ((0 : Int), ((0 : Int), ((0 : Int), ())))), ((0 : Int), ((0 : Int), (([] : List Int), (([] : List IS), (([] : List PC), ((0 : Int), ((List.replicate (8 : Nat) (0 : Int)), (([] : List I2), (([] : List Bool), (([] : List I2), ())))))))))))) fun (x23 : PT) =>
  (Option.bind (d49 x0 (x23, ())) fun (x24 : ((Int × Unit) × Unit)) =>
  (lt (x24.1.1 != (0 : Int)) fun (x25 : Bool) =>
  (if (x25 = Bool.true) then
  (Option.some ((x24.1.1, ((Go.IntKind.wrap Go.IntKind.i64 (x19.2.1 + (1 : Int))), ())), ()))
  else (x22 ((x19.1.1, ()), (x19.2.1, ())))))))
  else (Option.none))))
  else (x17 ((x19.1.1, ()), ())))))))
def d14_K10 (x0 : Nat) : (((((List PT) × ((List (Int × (Int × (Bool × (Int × I2))))) × ((List CH) × Unit))) × Unit) × Unit) → (Option (I2 × Unit))) :=
  (fun (x10 : ((((List PT) × ((List (Int × (Int × (Bool × (Int × I2))))) × ((List CH) × Unit))) × Unit) × Unit)) => (Option.bind (d47 x0 (x10.1.1, ())) fun (x11 : (((List SV) × Unit) × Unit)) =>
  (Option.bind (d46 x0 (x11.1.1, ())) fun (x12 : (I2 × Unit)) =>
  (lt (x12.1.1 != (0 : Int)) fun (x13 : Bool) =>
  (if (x13 = Bool.true) then
  (Option.some ((x12.1.1, (x12.1.2.1, ())), ()))
  else (Option.bind (d47 x0 (x10.1.1, ())) fun (x14 : (((List SV) × Unit) × Unit)) =>
  (Option.bind (d48 x0 (x14.1.1, ())) fun (x15 : (I2 × Unit)) =>
  (lt (x15.1.2.1 != (0 : Int)) fun (x16 : Bool) =>
  (if (x16 = Bool.true) then
  (Option.some ((x15.1.2.1, ((0 : Int), ())), ()))
  else (shr (d14_K7 x0) (fun (x17 : (((((List PT) × ((List (Int × (Int × (Bool × (Int × I2))))) × ((List CH) × Unit))) × Unit) × Unit) → (Option (I2 × Unit)))) => (loopN (d14_L9 x0 x17) x0 ((x10.1.1, ()), ((0 : Int), ()))))))))))))))
def d14_K11 (x11 : (((((List PT) × ((List (Int × (Int × (Bool × (Int × I2))))) × ((List CH) × Unit))) × Unit) × (Int × Unit)) → (Option (I2 × Unit)))) : (((((List PT) × ((List (Int × (Int × (Bool × (Int × I2))))) × ((List CH) × Unit))) × Unit) × (Int × Unit)) → (Option (I2 × Unit))) :=
  (fun (x15 : ((((List PT) × ((List (Int × (Int × (Bool × (Int × I2))))) × ((List CH) × Unit))) × Unit) × (Int × Unit))) => (x11 ((x15.1.1, ()), ((Go.IntKind.wrap Go.IntKind.i64 (x15.2.1 + (1 : Int))), ()))))
def d14_L12 (x0 : Nat) (x10 : (((((List PT) × ((List (Int × (Int × (Bool × (Int × I2))))) × ((List CH) × Unit))) × Unit) × Unit) → (Option (I2 × Unit)))) : ((((((List PT) × ((List (Int × (Int × (Bool × (Int × I2))))) × ((List CH) × Unit))) × Unit) × (Int × Unit)) → (Option (I2 × Unit))) → (((((List PT) × ((List (Int × (Int × (Bool × (Int × I2))))) × ((List CH) × Unit))) × Unit) × (Int × Unit)) → (Option (I2 × Unit)))) :=
  (fun (x11 : (((((List PT) × ((List (Int × (Int × (Bool × (Int × I2))))) × ((List CH) × Unit))) × Unit) × (Int × Unit)) → (Option (I2 × Unit)))) => (fun (x12 : ((((List PT) × ((List (Int × (Int × (Bool × (Int × I2))))) × ((List CH) × Unit))) × Unit) × (Int × Unit))) => (lt (((List.length x12.1.1.1) : Nat) : Int) fun (x13 : Int) =>
  (lt (Decidable.decide (x12.2.1 < x13)) fun (x14 : Bool) =>
  (if (x14 = Bool.true) then
  (shr (d14_K11 x11) (fun (x15 : (((((List PT) × ((List (Int × (Int × (Bool × (Int × I2))))) × ((List CH) × Unit))) × Unit) × (Int × Unit)) → (Option (I2 × Unit)))) => (if (((Decidable.decide ((0 : Int) ≤ x12.2.1)) && (Decidable.decide (x12.2.1 < (((List.length x12.1.1.1) : Nat) : Int)))) = Bool.true) then
  (lt (List.getD x12.1.1.1 (Int.toNat x12.2.1) (((0 : Int), ((0 : Int), ((0 : Int), ((0 : Int), ())))), ((0 : Int), ((0 : Int), (([] : List Int), (([] : List IS), (([] : List PC), ((0 : Int), ((List.replicate (8 : Nat) (0 : Int)), (([] : List I2), (([] : List Bool), (([] : List I2), ())))))))))))) fun (x16 : PT) =>
  (Option.bind (d45 x0 (x16, ())) fun (x17 : ((Bool × Unit) × Unit)) =>
  (lt (Bool.not x17.1.1) fun (x18 : Bool) =>
  (if (x18 = Bool.true) then
  (Option.some (((100 : Int), ((Go.IntKind.wrap Go.IntKind.i64 (x12.2.1 + (1 : Int))), ())), ()))
  else (x15 ((x12.1.1, ()), (x12.2.1, ())))))))
  else (Option.none))))
  else (x10 ((x12.1.1, ()), ())))))))
def d14 : (Nat → ((((List PT) × ((List (Int × (Int × (Bool × (Int × I2))))) × ((List CH) × Unit))) × Unit) → (Option (I2 × Unit)))) :=
  (fun (x0 : Nat) => (fun (x1 : (((List PT) × ((List (Int × (Int × (Bool × (Int × I2))))) × ((List CH) × Unit))) × Unit)) => (lt (((List.length x1.1.1) : Nat) : Int) fun (x2 : Int) =>
  (lt (Decidable.decide (x2 > (32 : Int))) fun (x3 : Bool) =>
  (lt (((List.length x1.1.2.1) : Nat) : Int) fun (x4 : Int) =>
  (lt (Decidable.decide (x4 > (64 : Int))) fun (x5 : Bool) =>
  (lt (if (x3 = Bool.true) then
  Bool.true
  else x5) fun (x6 : Bool) =>
  (lt (((List.length x1.1.2.2.1) : Nat) : Int) fun (x7 : Int) =>
  (lt (Decidable.decide (x7 > (64 : Int))) fun (x8 : Bool) =>
  (lt (if (x6 = Bool.true) then
  Bool.true
  else x8) fun (x9 : Bool) =>
  (if (x9 = Bool.true) then
  (Option.some (((100 : Int), ((0 : Int), ())), ()))
  else (shr (d14_K10 x0) (fun (x10 : (((((List PT) × ((List (Int × (Int × (Bool × (Int × I2))))) × ((List CH) × Unit))) × Unit) × Unit) → (Option (I2 × Unit)))) => (loopN (d14_L12 x0 x10) x0 ((x1.1, ()), ((0 : Int), ()))))))))))))))))
theorem k14 : c_fn Tryz.prog ⟨[(45, ⟨s45, d45⟩), (47, ⟨s47, d47⟩), (46, ⟨s46, d46⟩), (48, ⟨s48, d48⟩), (49, ⟨s49, d49⟩), (50, ⟨s50, d50⟩), (51, ⟨s51, d51⟩)], ks0⟩ Tryz.f14 s14 h14 = some d14 := by kernel_rfl
/-- bulkhead/age.Stay -/
def s52 : Sig := ⟨[((.pair (.sl 64 kPT) (.pair (.sl 41 (.pair (.int .i64) (.pair (.int .i64) (.pair .bool (.pair (.int .i64) kI2))))) (.pair (.sl 34 kCH) .unit))), .val), ((.int .i64), .val)], [((.int .i64), .val), ((.int .i64), .val)]⟩
 def h52 : Hint := (.seq .leaf
   (.seq (.pre ⟨[], [((2, 0), (.val (.ptr 26 (.pair (.sl 64 kPT) (.pair (.sl 41 (.pair (.int .i64) (.pair (.int .i64) (.pair .bool (.pair (.int .i64) kI2))))) (.pair (.sl 34 kCH) .unit)))))), ((1, 0), (.val (.int .i64)))]⟩ .leaf)
   .leaf))
def d52 : (Nat → ((((List PT) × ((List (Int × (Int × (Bool × (Int × I2))))) × ((List CH) × Unit))) × (Int × Unit)) → (Option (I2 × Unit)))) :=
  (fun (x0 : Nat) => (fun (x1 : (((List PT) × ((List (Int × (Int × (Bool × (Int × I2))))) × ((List CH) × Unit))) × (Int × Unit))) => (Option.bind (d43x2 x0 (x1.1, (x1.2.1, ((1 : Int), ((x1.1, ()), ()))))) fun (x2 : (I2 × Unit)) =>
  (Option.some ((x2.1.1, (x2.1.2.1, ())), ())))))
theorem k52 : c_fn Tryz.prog ⟨[(105, ⟨s105, d105⟩), (43, ⟨s43x2, d43x2⟩), (43, ⟨s43x1, d43x1⟩), (43, ⟨s43, d43⟩)], ks0⟩ Tryz.f52 s52 h52 = some d52 := by kernel_rfl
/-- bulkhead/age.Rate -/
def s16 : Sig := ⟨[((.pair (.sl 64 kPT) (.pair (.sl 41 (.pair (.int .i64) (.pair (.int .i64) (.pair .bool (.pair (.int .i64) kI2))))) (.pair (.sl 34 kCH) .unit))), .val), ((.int .i64), .val), ((.int .i64), .val)], [((.int .i64), .val), ((.int .i64), .val)]⟩
 def h16 : Hint := (.seq .leaf
   (.seq (.pre ⟨[((.ptr 26 (.pair (.sl 64 kPT) (.pair (.sl 41 (.pair (.int .i64) (.pair (.int .i64) (.pair .bool (.pair (.int .i64) kI2))))) (.pair (.sl 34 kCH) .unit)))), (.ow .sh), (3, 0))], [((5, 0), (.val (.ptr 3 (.int .i64)))), ((1, 0), (.val (.int .i64))), ((3, 0), (.own 0))]⟩ .leaf)
   .leaf))
def d16 : (Nat → ((((List PT) × ((List (Int × (Int × (Bool × (Int × I2))))) × ((List CH) × Unit))) × I2) → (Option (I2 × Unit)))) :=
  (fun (x0 : Nat) => (fun (x1 : (((List PT) × ((List (Int × (Int × (Bool × (Int × I2))))) × ((List CH) × Unit))) × I2)) => (Option.bind (d43x1 x0 (x1.1, (x1.2.1, ((1 : Int), ((x1.2.2.1, ()), ()))))) fun (x2 : (I2 × Unit)) =>
  (Option.some ((x2.1.1, (x2.1.2.1, ())), ())))))
theorem k16 : c_fn Tryz.prog ⟨[(53, ⟨s53, d53⟩), (43, ⟨s43x2, d43x2⟩), (43, ⟨s43x1, d43x1⟩), (43, ⟨s43, d43⟩)], ks0⟩ Tryz.f16 s16 h16 = some d16 := by kernel_rfl
/-- bulkhead/bulkheadlaw26.lives -/
def s15 : Sig := ⟨[], [(.bool, .val)]⟩
 def h15 : Hint := (.seq .leaf
   (.seq .leaf
   (.seq .leaf
   (.seq .leaf
   (.seq .leaf
   .leaf)))))
def d15 : (Nat → (Unit → (Option ((Bool × Unit) × Unit)))) :=
  (fun (x0 : Nat) => (fun (x1 : Unit) => (lt (((1 : Int), ((0 : Int), ((0 : Int), ((0 : Int), ((0 : Int), ()))))) :: ([] : List IS)) fun (x2 : (List IS)) =>
  (lt (((0 : Int), ((0 : Int), ((0 : Int), ((0 : Int), ((0 : Int), (Bool.false, ())))))) :: ([] : List PC)) fun (x3 : (List PC)) =>
  (lt (List.replicate (8 : Nat) (0 : Int)) fun (x4 : (List Int)) =>
  (lt ((((1 : Int), ((1 : Int), ((0 : Int), ((0 : Int), ())))), ((0 : Int), ((0 : Int), (([] : List Int), (x2, (x3, ((0 : Int), (x4, (([] : List I2), (([] : List Bool), (([] : List I2), ()))))))))))) :: ([] : List PT)) fun (x5 : (List PT)) =>
  (lt (((1 : Int), ((1 : Int), (Bool.true, ((1 : Int), ((3 : Int), ((0 : Int), ())))))) :: ([] : List (Int × (Int × (Bool × (Int × I2)))))) fun (x6 : (List (Int × (Int × (Bool × (Int × I2)))))) =>
  (lt (((1 : Int), ((1 : Int), (([] : List Int), ((4 : Int), ((10 : Int), ()))))) :: ([] : List CH)) fun (x7 : (List CH)) =>
  (Option.bind (d52 x0 ((x5, (x6, (x7, ()))), ((1 : Int), ()))) fun (x8 : (I2 × Unit)) =>
  (Option.bind (d16 x0 ((x5, (x6, (x7, ()))), ((1 : Int), ((21 : Int), ())))) fun (x9 : (I2 × Unit)) =>
  (lt (x8.1.1 == (30 : Int)) fun (x10 : Bool) =>
  (lt (x8.1.2.1 == (0 : Int)) fun (x11 : Bool) =>
  (lt (if (x10 = Bool.true) then
  x11
  else Bool.false) fun (x12 : Bool) =>
  (lt (x9.1.1 == (3 : Int)) fun (x13 : Bool) =>
  (lt (if (x12 = Bool.true) then
  x13
  else Bool.false) fun (x14 : Bool) =>
  (lt (x9.1.2.1 == (0 : Int)) fun (x15 : Bool) =>
  (Option.some (((if (x14 = Bool.true) then
  x15
  else Bool.false), ()), ()))))))))))))))))))
theorem k15 : c_fn Tryz.prog ⟨[(52, ⟨s52, d52⟩), (16, ⟨s16, d16⟩)], ks0⟩ Tryz.f15 s15 h15 = some d15 := by kernel_rfl
/-- bulkhead/age.Safe$1 -/
def s56 : Sig := ⟨[(kCH, .val), ((.ptr 3 (.int .i64)), .val), ((.ptr 26 (.pair (.sl 64 kPT) (.pair (.sl 41 (.pair (.int .i64) (.pair (.int .i64) (.pair .bool (.pair (.int .i64) kI2))))) (.pair (.sl 34 kCH) .unit)))), .val)], [(.bool, .val), ((.int .i64), .val)]⟩
 def h56 : Hint := (.seq .leaf
   (.seq .leaf
   (.seq .leaf
   (.seq (.seq .leaf
   (.block ⟨[], [((7, 0), (.val (.int .i64))), ((8, 0), (.val .bool))]⟩ true
     (.loop ⟨[], [((22, 0), (.val (.int .i64))), ((2, 0), (.val (.ptr 26 (.pair (.sl 64 kPT) (.pair (.sl 41 (.pair (.int .i64) (.pair (.int .i64) (.pair .bool (.pair (.int .i64) kI2))))) (.pair (.sl 34 kCH) .unit)))))), ((6, 0), (.val (.int .i64))), ((8, 0), (.val .bool)), ((20, 0), (.val (.sl 3 (.int .i64)))), ((7, 0), (.val (.int .i64))), ((21, 0), (.val (.int .i64)))]⟩
       (.seq .leaf
       (.seq (.cond none
         .leaf
         .leaf)
       (.seq (.block ⟨[], [((2, 0), (.val (.ptr 26 (.pair (.sl 64 kPT) (.pair (.sl 41 (.pair (.int .i64) (.pair (.int .i64) (.pair .bool (.pair (.int .i64) kI2))))) (.pair (.sl 34 kCH) .unit)))))), ((6, 0), (.val (.int .i64))), ((8, 0), (.val .bool)), ((20, 0), (.val (.sl 3 (.int .i64)))), ((7, 0), (.val (.int .i64))), ((21, 0), (.val (.int .i64))), ((22, 0), (.val (.int .i64)))]⟩ true
         (.seq .leaf
         .leaf))
       .leaf))))))
   (.seq .leaf
   .leaf)))))
def d56_K1  : ((Unit × (Int × (Bool × Unit))) → (Option ((Bool × (Int × Unit)) × Unit))) :=
  (fun (x3 : (Unit × (Int × (Bool × Unit)))) => (Option.some ((x3.2.2.1, (x3.2.1, ())), ())))
def d56_K2 (x4 : ((Unit × (Int × (((List PT) × ((List (Int × (Int × (Bool × (Int × I2))))) × ((List CH) × Unit))) × (Int × (Bool × ((List Int) × I2)))))) → (Option ((Bool × (Int × Unit)) × Unit)))) : ((Unit × (((List PT) × ((List (Int × (Int × (Bool × (Int × I2))))) × ((List CH) × Unit))) × (Int × (Bool × ((List Int) × (Int × I2)))))) → (Option ((Bool × (Int × Unit)) × Unit))) :=
  (fun (x7 : (Unit × (((List PT) × ((List (Int × (Int × (Bool × (Int × I2))))) × ((List CH) × Unit))) × (Int × (Bool × ((List Int) × (Int × I2))))))) => (x4 ((), ((Go.IntKind.wrap Go.IntKind.i64 (x7.2.2.2.2.2.2.2.1 + (1 : Int))), (x7.2.1, (x7.2.2.1, (x7.2.2.2.1, (x7.2.2.2.2.1, (x7.2.2.2.2.2.1, (x7.2.2.2.2.2.2.1, ()))))))))))
def d56_L3 (x3 : ((Unit × (Int × (Bool × Unit))) → (Option ((Bool × (Int × Unit)) × Unit)))) : (((Unit × (Int × (((List PT) × ((List (Int × (Int × (Bool × (Int × I2))))) × ((List CH) × Unit))) × (Int × (Bool × ((List Int) × I2)))))) → (Option ((Bool × (Int × Unit)) × Unit))) → ((Unit × (Int × (((List PT) × ((List (Int × (Int × (Bool × (Int × I2))))) × ((List CH) × Unit))) × (Int × (Bool × ((List Int) × I2)))))) → (Option ((Bool × (Int × Unit)) × Unit)))) :=
  (fun (x4 : ((Unit × (Int × (((List PT) × ((List (Int × (Int × (Bool × (Int × I2))))) × ((List CH) × Unit))) × (Int × (Bool × ((List Int) × I2)))))) → (Option ((Bool × (Int × Unit)) × Unit)))) => (fun (x5 : (Unit × (Int × (((List PT) × ((List (Int × (Int × (Bool × (Int × I2))))) × ((List CH) × Unit))) × (Int × (Bool × ((List Int) × I2))))))) => (lt (Decidable.decide (x5.2.1 < x5.2.2.2.2.2.2.2.1)) fun (x6 : Bool) =>
  (if (x6 = Bool.true) then
  (shr (d56_K2 x4) (fun (x7 : ((Unit × (((List PT) × ((List (Int × (Int × (Bool × (Int × I2))))) × ((List CH) × Unit))) × (Int × (Bool × ((List Int) × (Int × I2)))))) → (Option ((Bool × (Int × Unit)) × Unit)))) => (if (((Decidable.decide ((0 : Int) ≤ x5.2.1)) && (Decidable.decide (x5.2.1 < (((List.length x5.2.2.2.2.2.1) : Nat) : Int)))) = Bool.true) then
  (lt (List.getD x5.2.2.2.2.2.1 (Int.toNat x5.2.1) (0 : Int)) fun (x8 : Int) =>
  (lt (Go.IntKind.wrap Go.IntKind.i64 (x8 - (1 : Int))) fun (x9 : Int) =>
  (if (((Bool.not ((x5.2.2.2.2.1 == Bool.true) && Bool.true)) || ((Decidable.decide ((0 : Int) ≤ x9)) && (Decidable.decide (x9 < (((List.length x5.2.2.1.2.1) : Nat) : Int))))) = Bool.true) then
  (lt (List.getD x5.2.2.1.2.1 (Int.toNat x9) ((0 : Int), ((0 : Int), (Bool.false, ((0 : Int), ((0 : Int), ((0 : Int), ()))))))).2.2.2.2.1 fun (x10 : Int) =>
  (lt (Decidable.decide (x5.2.2.2.1 ≤ x10)) fun (x11 : Bool) =>
  (x7 ((), (x5.2.2.1, (x5.2.2.2.1, ((if (x5.2.2.2.2.1 = Bool.true) then
  x11
  else Bool.false), (x5.2.2.2.2.2.1, (x5.2.2.2.2.2.2.1, (x5.2.2.2.2.2.2.2.1, (x5.2.1, ())))))))))))
  else (Option.none))))
  else (Option.none))))
  else (x3 ((), (x5.2.2.2.2.2.2.1, (x5.2.2.2.2.1, ()))))))))
def d56 : (Nat → ((CH × (Int × (((List PT) × ((List (Int × (Int × (Bool × (Int × I2))))) × ((List CH) × Unit))) × Unit))) → (Option ((Bool × (Int × Unit)) × Unit)))) :=
  (fun (x0 : Nat) => (fun (x1 : (CH × (Int × (((List PT) × ((List (Int × (Int × (Bool × (Int × I2))))) × ((List CH) × Unit))) × Unit)))) => (Option.bind (d54 x0 (x1.1, (x1.2.1, ()))) fun (x2 : (I2 × Unit)) =>
  (shr d56_K1 (fun (x3 : ((Unit × (Int × (Bool × Unit))) → (Option ((Bool × (Int × Unit)) × Unit)))) => (loopN (d56_L3 x3) x0 ((), ((0 : Int), (x1.2.2.1, (x2.1.1, ((x2.1.2.1 == (0 : Int)), (x1.1.2.2.1, (x2.1.2.1, ((((List.length x1.1.2.2.1) : Nat) : Int), ()))))))))))))))
theorem k56 : c_fn Tryz.prog ⟨[(54, ⟨s54, d54⟩)], ks0⟩ Tryz.f56 s56 h56 = some d56 := by kernel_rfl
/-- bulkhead/age.of[bool] -/
def s55 : Sig := ⟨[((.pair (.sl 64 kPT) (.pair (.sl 41 (.pair (.int .i64) (.pair (.int .i64) (.pair .bool (.pair (.int .i64) kI2))))) (.pair (.sl 34 kCH) .unit))), .val), ((.int .i64), .val), ((.int .i64), .val), ((.fn 56 (.pair (.ptr 3 (.int .i64)) (.pair (.ptr 26 (.pair (.sl 64 kPT) (.pair (.sl 41 (.pair (.int .i64) (.pair (.int .i64) (.pair .bool (.pair (.int .i64) kI2))))) (.pair (.sl 34 kCH) .unit)))) .unit))), .val)], [(.bool, .val), ((.int .i64), .val)]⟩
 def h55 : Hint := (.seq .leaf
   (.seq .leaf
   (.seq (.seq .leaf
   (.seq .leaf
   (.cond none
     (.seq .leaf
     .leaf)
     .leaf)))
   (.seq (.seq .leaf
   (.cond none
     (.seq .leaf
     .leaf)
     .leaf))
   (.seq .leaf
   (.seq (.seq .leaf
   (.cond none
     (.seq .leaf
     .leaf)
     .leaf))
   (.seq .leaf
   .leaf)))))))
def d55 : (Nat → ((((List PT) × ((List (Int × (Int × (Bool × (Int × I2))))) × ((List CH) × Unit))) × (Int × (Int × ((Int × (((List PT) × ((List (Int × (Int × (Bool × (Int × I2))))) × ((List CH) × Unit))) × Unit)) × Unit)))) → (Option ((Bool × (Int × Unit)) × Unit)))) :=
  (fun (x0 : Nat) => (fun (x1 : (((List PT) × ((List (Int × (Int × (Bool × (Int × I2))))) × ((List CH) × Unit))) × (Int × (Int × ((Int × (((List PT) × ((List (Int × (Int × (Bool × (Int × I2))))) × ((List CH) × Unit))) × Unit)) × Unit))))) => (Option.bind (d96 x0 (x1.1, ())) fun (x2 : (I2 × Unit)) =>
  (lt (x2.1.1 != (0 : Int)) fun (x3 : Bool) =>
  (if (x3 = Bool.true) then
  (Option.some ((Bool.false, (x2.1.1, ())), ()))
  else (lt (Decidable.decide (x1.2.1 < (1 : Int))) fun (x4 : Bool) =>
  (lt (((List.length x1.1.2.2.1) : Nat) : Int) fun (x5 : Int) =>
  (lt (Decidable.decide (x1.2.1 > x5)) fun (x6 : Bool) =>
  (lt (if (x4 = Bool.true) then
  Bool.true
  else x6) fun (x7 : Bool) =>
  (if (x7 = Bool.true) then
  (Option.some ((Bool.false, ((2 : Int), ())), ()))
  else (lt (Go.IntKind.wrap Go.IntKind.i64 (x1.2.1 - (1 : Int))) fun (x8 : Int) =>
  (if (((Decidable.decide ((0 : Int) ≤ x8)) && (Decidable.decide (x8 < (((List.length x1.1.2.2.1) : Nat) : Int)))) = Bool.true) then
  (lt (List.getD x1.1.2.2.1 (Int.toNat x8) ((0 : Int), ((0 : Int), (([] : List Int), ((0 : Int), ((0 : Int), ())))))) fun (x9 : CH) =>
  (lt (x9.1 != x1.2.2.1) fun (x10 : Bool) =>
  (lt (x1.2.2.1 == (1 : Int)) fun (x11 : Bool) =>
  (lt (x9.2.1 == (0 : Int)) fun (x12 : Bool) =>
  (lt (if (x11 = Bool.true) then
  x12
  else Bool.false) fun (x13 : Bool) =>
  (lt (if (x10 = Bool.true) then
  Bool.true
  else x13) fun (x14 : Bool) =>
  (if (x14 = Bool.true) then
  (Option.some ((Bool.false, ((2 : Int), ())), ()))
  else (Option.bind (d56 x0 (x9, (x1.2.2.2.1.1, (x1.2.2.2.1.2.1, ())))) fun (x15 : ((Bool × (Int × Unit)) × Unit)) =>
  (Option.some ((x15.1.1, (x15.1.2.1, ())), ()))))))))))
  else (Option.none)))))))))))))
theorem k55 : c_fn Tryz.prog ⟨[(96, ⟨s96, d96⟩), (56, ⟨s56, d56⟩)], ks0⟩ Tryz.f55 s55 h55 = some d55 := by kernel_rfl
/-- bulkhead/age.Safe -/
def s17 : Sig := ⟨[((.pair (.sl 64 kPT) (.pair (.sl 41 (.pair (.int .i64) (.pair (.int .i64) (.pair .bool (.pair (.int .i64) kI2))))) (.pair (.sl 34 kCH) .unit))), .val), ((.int .i64), .val), ((.int .i64), .val)], [(.bool, .val), ((.int .i64), .val)]⟩
 def h17 : Hint := (.seq .leaf
   (.seq (.pre ⟨[], [((5, 0), (.val (.ptr 3 (.int .i64)))), ((3, 0), (.val (.ptr 26 (.pair (.sl 64 kPT) (.pair (.sl 41 (.pair (.int .i64) (.pair (.int .i64) (.pair .bool (.pair (.int .i64) kI2))))) (.pair (.sl 34 kCH) .unit)))))), ((1, 0), (.val (.int .i64)))]⟩ .leaf)
   .leaf))
def d17 : (Nat → ((((List PT) × ((List (Int × (Int × (Bool × (Int × I2))))) × ((List CH) × Unit))) × I2) → (Option ((Bool × (Int × Unit)) × Unit)))) :=
  (fun (x0 : Nat) => (fun (x1 : (((List PT) × ((List (Int × (Int × (Bool × (Int × I2))))) × ((List CH) × Unit))) × I2)) => (Option.bind (d55 x0 (x1.1, (x1.2.1, ((1 : Int), ((x1.2.2.1, (x1.1, ())), ()))))) fun (x2 : ((Bool × (Int × Unit)) × Unit)) =>
  (Option.some ((x2.1.1, (x2.1.2.1, ())), ())))))
theorem k17 : c_fn Tryz.prog ⟨[(56, ⟨s56, d56⟩), (55, ⟨s55, d55⟩)], ks0⟩ Tryz.f17 s17 h17 = some d17 := by kernel_rfl
end Go.Proofs.YtekgngedamnmaaaGreatDoor.L
