import Derived.Test.YtledeaknnihlmaaDoorFlD
namespace Go.Proofs.YtledeaknnihlmaaDoor.L
open Go Go.Lift Go.Proofs
set_option maxRecDepth 100000
set_option linter.unusedVariables false
/-- bulkhead/flow.Alike$1 -/
def s44 : Sig := ⟨[((.pair (.pair (.int .i64) (.pair (.int .i64) (.pair (.int .i64) (.pair (.int .i64) .unit)))) (.pair (.int .i64) (.pair (.int .i64) (.pair (.sl 2 (.int .i64)) (.pair (.sl 57 (.pair (.int .u8) (.pair (.int .u8) (.pair (.int .u8) (.pair (.int .u8) (.pair (.int .i32) .unit)))))) (.pair (.sl 94 (.pair (.int .i64) (.pair (.int .i64) (.pair (.int .i64) (.pair (.int .i64) (.pair (.int .i64) (.pair .bool .unit))))))) (.pair (.int .i64) (.pair (.arr 8 (.int .i64)) (.pair (.sl 96 (.pair (.int .i64) (.pair (.int .i64) .unit))) (.pair (.sl 4 .bool) (.pair (.sl 98 (.pair (.int .i64) (.pair (.int .i64) .unit))) .unit))))))))))), .val), ((.pair (.pair (.int .i64) (.pair (.int .i64) (.pair (.int .i64) (.pair (.int .i64) .unit)))) (.pair (.int .i64) (.pair (.int .i64) (.pair (.sl 2 (.int .i64)) (.pair (.sl 57 (.pair (.int .u8) (.pair (.int .u8) (.pair (.int .u8) (.pair (.int .u8) (.pair (.int .i32) .unit)))))) (.pair (.sl 94 (.pair (.int .i64) (.pair (.int .i64) (.pair (.int .i64) (.pair (.int .i64) (.pair (.int .i64) (.pair .bool .unit))))))) (.pair (.int .i64) (.pair (.arr 8 (.int .i64)) (.pair (.sl 96 (.pair (.int .i64) (.pair (.int .i64) .unit))) (.pair (.sl 4 .bool) (.pair (.sl 98 (.pair (.int .i64) (.pair (.int .i64) .unit))) .unit))))))))))), .val)], [(.bool, .val)]⟩
 def h44 : Hint := (.seq .leaf
   (.seq .leaf
   .leaf))
def d44 : (Nat → ((PA × (PA × Unit)) → (Option ((Bool × Unit) × Unit)))) :=
  (fun (x0 : Nat) => (fun (x1 : (PA × (PA × Unit))) => (Option.some ((((x1.1.1.1 == x1.2.1.1.1) && ((x1.1.1.2.1 == x1.2.1.1.2.1) && ((x1.1.1.2.2.1 == x1.2.1.1.2.2.1) && ((x1.1.1.2.2.2.1 == x1.2.1.1.2.2.2.1) && Bool.true)))), ()), ()))))
theorem k44 : c_fn Tryd.prog [] Tryd.f44 s44 h44 = some d44 := by kernel_rfl
/-- slices.Equal[[]int,int] -/
def s47 : Sig := ⟨[((.sl 3 (.int .i64)), .val), ((.sl 3 (.int .i64)), .val)], [(.bool, .val)]⟩
 def h47 : Hint := (.seq .leaf
   (.seq (.seq .leaf
   (.cond none
     (.seq .leaf
     .leaf)
     .leaf))
   (.seq (.seq .leaf
   (.block ⟨[], []⟩ true
     (.loop ⟨[], [((13, 0), (.val (.int .i64))), ((1, 0), (.val (.sl 3 (.int .i64)))), ((0, 0), (.val (.sl 3 (.int .i64)))), ((12, 0), (.val (.int .i64)))]⟩
       (.seq .leaf
       (.seq (.cond none
         .leaf
         .leaf)
       (.seq (.block ⟨[], [((1, 0), (.val (.sl 3 (.int .i64)))), ((0, 0), (.val (.sl 3 (.int .i64)))), ((12, 0), (.val (.int .i64))), ((13, 0), (.val (.int .i64)))]⟩ true
         (.seq .leaf
         (.seq .leaf
         (.cond none
           (.seq .leaf
           .leaf)
           .leaf))))
       .leaf))))))
   (.seq .leaf
   .leaf))))
def d47_K1 (x6 : ((Unit × (Int × ((List Int) × ((List Int) × (Int × Unit))))) → (Option ((Bool × Unit) × Unit)))) : ((Unit × ((List Int) × ((List Int) × (Int × (Int × Unit))))) → (Option ((Bool × Unit) × Unit))) :=
  (fun (x9 : (Unit × ((List Int) × ((List Int) × (Int × (Int × Unit)))))) => (x6 ((), ((Go.IntKind.wrap Go.IntKind.i64 (x9.2.2.2.2.1 + (1 : Int))), (x9.2.1, (x9.2.2.1, (x9.2.2.2.1, ())))))))
def d47_L2 (x5 : ((Unit × Unit) → (Option ((Bool × Unit) × Unit)))) : (((Unit × (Int × ((List Int) × ((List Int) × (Int × Unit))))) → (Option ((Bool × Unit) × Unit))) → ((Unit × (Int × ((List Int) × ((List Int) × (Int × Unit))))) → (Option ((Bool × Unit) × Unit)))) :=
  (fun (x6 : ((Unit × (Int × ((List Int) × ((List Int) × (Int × Unit))))) → (Option ((Bool × Unit) × Unit)))) => (fun (x7 : (Unit × (Int × ((List Int) × ((List Int) × (Int × Unit)))))) => (lt (Decidable.decide (x7.2.1 < x7.2.2.2.2.1)) fun (x8 : Bool) =>
  (if (x8 = Bool.true) then
  (shr (d47_K1 x6) (fun (x9 : ((Unit × ((List Int) × ((List Int) × (Int × (Int × Unit))))) → (Option ((Bool × Unit) × Unit)))) => (if (((Decidable.decide ((0 : Int) ≤ x7.2.1)) && (Decidable.decide (x7.2.1 < (((List.length x7.2.2.2.1) : Nat) : Int)))) = Bool.true) then
  (lt (List.getD x7.2.2.2.1 (Int.toNat x7.2.1) (0 : Int)) fun (x10 : Int) =>
  (if (((Decidable.decide ((0 : Int) ≤ x7.2.1)) && (Decidable.decide (x7.2.1 < (((List.length x7.2.2.1) : Nat) : Int)))) = Bool.true) then
  (lt (List.getD x7.2.2.1 (Int.toNat x7.2.1) (0 : Int)) fun (x11 : Int) =>
  (lt (x10 != x11) fun (x12 : Bool) =>
  (if (x12 = Bool.true) then
  (Option.some ((Bool.false, ()), ()))
  else (x9 ((), (x7.2.2.1, (x7.2.2.2.1, (x7.2.2.2.2.1, (x7.2.1, ())))))))))
  else (Option.none)))
  else (Option.none))))
  else (x5 ((), ()))))))
def d47 : (Nat → (((List Int) × ((List Int) × Unit)) → (Option ((Bool × Unit) × Unit)))) :=
  (fun (x0 : Nat) => (fun (x1 : ((List Int) × ((List Int) × Unit))) => (lt (((List.length x1.1) : Nat) : Int) fun (x2 : Int) =>
  (lt (((List.length x1.2.1) : Nat) : Int) fun (x3 : Int) =>
  (lt (x2 != x3) fun (x4 : Bool) =>
  (if (x4 = Bool.true) then
  (Option.some ((Bool.false, ()), ()))
  else (shr (fun (x5 : (Unit × Unit)) => (Option.some ((Bool.true, ()), ()))) (fun (x5 : ((Unit × Unit) → (Option ((Bool × Unit) × Unit)))) => (loopN (d47_L2 x5) x0 ((), ((0 : Int), (x1.2.1, (x1.1, ((((List.length x1.1) : Nat) : Int), ()))))))))))))))
theorem k47 : c_fn Tryd.prog [] Tryd.f47 s47 h47 = some d47 := by kernel_rfl
/-- bulkhead/flow.Alike$2 -/
def s46 : Sig := ⟨[((.pair (.int .i64) (.pair (.int .i64) (.pair (.sl 3 (.int .i64)) (.pair (.int .i64) (.pair (.int .i64) .unit))))), .val), ((.pair (.int .i64) (.pair (.int .i64) (.pair (.sl 3 (.int .i64)) (.pair (.int .i64) (.pair (.int .i64) .unit))))), .val)], [(.bool, .val)]⟩
 def h46 : Hint := (.seq .leaf
   (.seq .leaf
   .leaf))
def d46 : (Nat → ((CH × (CH × Unit)) → (Option ((Bool × Unit) × Unit)))) :=
  (fun (x0 : Nat) => (fun (x1 : (CH × (CH × Unit))) => (lt (x1.1.1 == x1.2.1.1) fun (x2 : Bool) =>
  (lt (x1.1.2.1 == x1.2.1.2.1) fun (x3 : Bool) =>
  (lt (if (x2 = Bool.true) then
  x3
  else Bool.false) fun (x4 : Bool) =>
  (lt (x1.1.2.2.2.1 == x1.2.1.2.2.2.1) fun (x5 : Bool) =>
  (lt (if (x4 = Bool.true) then
  x5
  else Bool.false) fun (x6 : Bool) =>
  (lt (x1.1.2.2.2.2.1 == x1.2.1.2.2.2.2.1) fun (x7 : Bool) =>
  (lt (if (x6 = Bool.true) then
  x7
  else Bool.false) fun (x8 : Bool) =>
  (Option.bind (if (((x8 == Bool.true) && Bool.true) = Bool.true) then
  (d47 x0 (x1.1.2.2.1, (x1.2.1.2.2.1, ())))
  else (Option.some ((Bool.false, ()), ()))) fun (x9 : ((Bool × Unit) × Unit)) =>
  (Option.some (((if (x8 = Bool.true) then
  x9.1.1
  else Bool.false), ()), ()))))))))))))
theorem k46 : c_fn Tryd.prog [(47, ⟨s47, d47⟩)] Tryd.f46 s46 h46 = some d46 := by kernel_rfl
/-- slices.EqualFunc[[]bulkhead/api.Part,[]bulkhead/api.Part,bulkhead/api.Part,bulkhead/api.Part] -/
def s43 : Sig := ⟨[((.sl 55 (.pair (.pair (.int .i64) (.pair (.int .i64) (.pair (.int .i64) (.pair (.int .i64) .unit)))) (.pair (.int .i64) (.pair (.int .i64) (.pair (.sl 2 (.int .i64)) (.pair (.sl 57 (.pair (.int .u8) (.pair (.int .u8) (.pair (.int .u8) (.pair (.int .u8) (.pair (.int .i32) .unit)))))) (.pair (.sl 94 (.pair (.int .i64) (.pair (.int .i64) (.pair (.int .i64) (.pair (.int .i64) (.pair (.int .i64) (.pair .bool .unit))))))) (.pair (.int .i64) (.pair (.arr 8 (.int .i64)) (.pair (.sl 96 (.pair (.int .i64) (.pair (.int .i64) .unit))) (.pair (.sl 4 .bool) (.pair (.sl 98 (.pair (.int .i64) (.pair (.int .i64) .unit))) .unit)))))))))))), .val), ((.sl 55 (.pair (.pair (.int .i64) (.pair (.int .i64) (.pair (.int .i64) (.pair (.int .i64) .unit)))) (.pair (.int .i64) (.pair (.int .i64) (.pair (.sl 2 (.int .i64)) (.pair (.sl 57 (.pair (.int .u8) (.pair (.int .u8) (.pair (.int .u8) (.pair (.int .u8) (.pair (.int .i32) .unit)))))) (.pair (.sl 94 (.pair (.int .i64) (.pair (.int .i64) (.pair (.int .i64) (.pair (.int .i64) (.pair (.int .i64) (.pair .bool .unit))))))) (.pair (.int .i64) (.pair (.arr 8 (.int .i64)) (.pair (.sl 96 (.pair (.int .i64) (.pair (.int .i64) .unit))) (.pair (.sl 4 .bool) (.pair (.sl 98 (.pair (.int .i64) (.pair (.int .i64) .unit))) .unit)))))))))))), .val), ((.fn 44 .unit), .val)], [(.bool, .val)]⟩
 def h43 : Hint := (.seq .leaf
   (.seq (.seq .leaf
   (.cond none
     (.seq .leaf
     .leaf)
     .leaf))
   (.seq (.seq .leaf
   (.block ⟨[], []⟩ true
     (.loop ⟨[], [((17, 0), (.val (.int .i64))), ((2, 0), (.val (.fn 44 .unit))), ((1, 0), (.val (.sl 55 (.pair (.pair (.int .i64) (.pair (.int .i64) (.pair (.int .i64) (.pair (.int .i64) .unit)))) (.pair (.int .i64) (.pair (.int .i64) (.pair (.sl 2 (.int .i64)) (.pair (.sl 57 (.pair (.int .u8) (.pair (.int .u8) (.pair (.int .u8) (.pair (.int .u8) (.pair (.int .i32) .unit)))))) (.pair (.sl 94 (.pair (.int .i64) (.pair (.int .i64) (.pair (.int .i64) (.pair (.int .i64) (.pair (.int .i64) (.pair .bool .unit))))))) (.pair (.int .i64) (.pair (.arr 8 (.int .i64)) (.pair (.sl 96 (.pair (.int .i64) (.pair (.int .i64) .unit))) (.pair (.sl 4 .bool) (.pair (.sl 98 (.pair (.int .i64) (.pair (.int .i64) .unit))) .unit)))))))))))))), ((15, 0), (.val (.sl 55 (.pair (.pair (.int .i64) (.pair (.int .i64) (.pair (.int .i64) (.pair (.int .i64) .unit)))) (.pair (.int .i64) (.pair (.int .i64) (.pair (.sl 2 (.int .i64)) (.pair (.sl 57 (.pair (.int .u8) (.pair (.int .u8) (.pair (.int .u8) (.pair (.int .u8) (.pair (.int .i32) .unit)))))) (.pair (.sl 94 (.pair (.int .i64) (.pair (.int .i64) (.pair (.int .i64) (.pair (.int .i64) (.pair (.int .i64) (.pair .bool .unit))))))) (.pair (.int .i64) (.pair (.arr 8 (.int .i64)) (.pair (.sl 96 (.pair (.int .i64) (.pair (.int .i64) .unit))) (.pair (.sl 4 .bool) (.pair (.sl 98 (.pair (.int .i64) (.pair (.int .i64) .unit))) .unit)))))))))))))), ((16, 0), (.val (.int .i64)))]⟩
       (.seq .leaf
       (.seq (.cond none
         .leaf
         .leaf)
       (.seq (.block ⟨[], [((2, 0), (.val (.fn 44 .unit))), ((1, 0), (.val (.sl 55 (.pair (.pair (.int .i64) (.pair (.int .i64) (.pair (.int .i64) (.pair (.int .i64) .unit)))) (.pair (.int .i64) (.pair (.int .i64) (.pair (.sl 2 (.int .i64)) (.pair (.sl 57 (.pair (.int .u8) (.pair (.int .u8) (.pair (.int .u8) (.pair (.int .u8) (.pair (.int .i32) .unit)))))) (.pair (.sl 94 (.pair (.int .i64) (.pair (.int .i64) (.pair (.int .i64) (.pair (.int .i64) (.pair (.int .i64) (.pair .bool .unit))))))) (.pair (.int .i64) (.pair (.arr 8 (.int .i64)) (.pair (.sl 96 (.pair (.int .i64) (.pair (.int .i64) .unit))) (.pair (.sl 4 .bool) (.pair (.sl 98 (.pair (.int .i64) (.pair (.int .i64) .unit))) .unit)))))))))))))), ((15, 0), (.val (.sl 55 (.pair (.pair (.int .i64) (.pair (.int .i64) (.pair (.int .i64) (.pair (.int .i64) .unit)))) (.pair (.int .i64) (.pair (.int .i64) (.pair (.sl 2 (.int .i64)) (.pair (.sl 57 (.pair (.int .u8) (.pair (.int .u8) (.pair (.int .u8) (.pair (.int .u8) (.pair (.int .i32) .unit)))))) (.pair (.sl 94 (.pair (.int .i64) (.pair (.int .i64) (.pair (.int .i64) (.pair (.int .i64) (.pair (.int .i64) (.pair .bool .unit))))))) (.pair (.int .i64) (.pair (.arr 8 (.int .i64)) (.pair (.sl 96 (.pair (.int .i64) (.pair (.int .i64) .unit))) (.pair (.sl 4 .bool) (.pair (.sl 98 (.pair (.int .i64) (.pair (.int .i64) .unit))) .unit)))))))))))))), ((16, 0), (.val (.int .i64))), ((17, 0), (.val (.int .i64)))]⟩ true
         (.seq .leaf
         (.seq .leaf
         (.seq .leaf
         (.cond none
           (.seq .leaf
           .leaf)
           .leaf)))))
       .leaf))))))
   (.seq .leaf
   .leaf))))
def d43_K1 (x6 : ((Unit × (Int × (Unit × ((List PA) × ((List PA) × (Int × Unit)))))) → (Option ((Bool × Unit) × Unit)))) : ((Unit × (Unit × ((List PA) × ((List PA) × (Int × (Int × Unit)))))) → (Option ((Bool × Unit) × Unit))) :=
  (fun (x9 : (Unit × (Unit × ((List PA) × ((List PA) × (Int × (Int × Unit))))))) => (x6 ((), ((Go.IntKind.wrap Go.IntKind.i64 (x9.2.2.2.2.2.1 + (1 : Int))), (x9.2.1, (x9.2.2.1, (x9.2.2.2.1, (x9.2.2.2.2.1, ()))))))))
def d43_L2 (x0 : Nat) (x5 : ((Unit × Unit) → (Option ((Bool × Unit) × Unit)))) : (((Unit × (Int × (Unit × ((List PA) × ((List PA) × (Int × Unit)))))) → (Option ((Bool × Unit) × Unit))) → ((Unit × (Int × (Unit × ((List PA) × ((List PA) × (Int × Unit)))))) → (Option ((Bool × Unit) × Unit)))) :=
  (fun (x6 : ((Unit × (Int × (Unit × ((List PA) × ((List PA) × (Int × Unit)))))) → (Option ((Bool × Unit) × Unit)))) => (fun (x7 : (Unit × (Int × (Unit × ((List PA) × ((List PA) × (Int × Unit))))))) => (lt (Decidable.decide (x7.2.1 < x7.2.2.2.2.2.1)) fun (x8 : Bool) =>
  (if (x8 = Bool.true) then
  (shr (d43_K1 x6) (fun (x9 : ((Unit × (Unit × ((List PA) × ((List PA) × (Int × (Int × Unit)))))) → (Option ((Bool × Unit) × Unit)))) => (if (((Decidable.decide ((0 : Int) ≤ x7.2.1)) && (Decidable.decide (x7.2.1 < (((List.length x7.2.2.2.2.1) : Nat) : Int)))) = Bool.true) then
  (lt (List.getD x7.2.2.2.2.1 (Int.toNat x7.2.1) (((0 : Int), ((0 : Int), ((0 : Int), ((0 : Int), ())))), ((0 : Int), ((0 : Int), (([] : List Int), (([] : List (Int × (Int × (Int × (Int × (Int × Unit)))))), (([] : List (Int × (Int × (Int × (Int × (Int × (Bool × Unit))))))), ((0 : Int), ((List.replicate (8 : Nat) (0 : Int)), (([] : List (Int × (Int × Unit))), (([] : List Bool), (([] : List (Int × (Int × Unit))), ())))))))))))) fun (x10 : PA) =>
  (lt (List.replicate (8 : Nat) (0 : Int)) fun (x11 : (List Int)) =>
  (if (((Decidable.decide ((0 : Int) ≤ x7.2.1)) && (Decidable.decide (x7.2.1 < (((List.length x7.2.2.2.1) : Nat) : Int)))) = Bool.true) then
  (lt (List.getD x7.2.2.2.1 (Int.toNat x7.2.1) (((0 : Int), ((0 : Int), ((0 : Int), ((0 : Int), ())))), ((0 : Int), ((0 : Int), (([] : List Int), (([] : List (Int × (Int × (Int × (Int × (Int × Unit)))))), (([] : List (Int × (Int × (Int × (Int × (Int × (Bool × Unit))))))), ((0 : Int), ((List.replicate (8 : Nat) (0 : Int)), (([] : List (Int × (Int × Unit))), (([] : List Bool), (([] : List (Int × (Int × Unit))), ())))))))))))) fun (x12 : PA) =>
  (Option.bind (d44 x0 (x10, (x12, ()))) fun (x13 : ((Bool × Unit) × Unit)) =>
  (lt (Bool.not x13.1.1) fun (x14 : Bool) =>
  (if (x14 = Bool.true) then
  (Option.some ((Bool.false, ()), ()))
  else (x9 ((), (x7.2.2.1, (x7.2.2.2.1, (x7.2.2.2.2.1, (x7.2.2.2.2.2.1, (x7.2.1, ())))))))))))
  else (Option.none))))
  else (Option.none))))
  else (x5 ((), ()))))))
def d43 : (Nat → (((List PA) × ((List PA) × (Unit × Unit))) → (Option ((Bool × Unit) × Unit)))) :=
  (fun (x0 : Nat) => (fun (x1 : ((List PA) × ((List PA) × (Unit × Unit)))) => (lt (((List.length x1.1) : Nat) : Int) fun (x2 : Int) =>
  (lt (((List.length x1.2.1) : Nat) : Int) fun (x3 : Int) =>
  (lt (x2 != x3) fun (x4 : Bool) =>
  (if (x4 = Bool.true) then
  (Option.some ((Bool.false, ()), ()))
  else (shr (fun (x5 : (Unit × Unit)) => (Option.some ((Bool.true, ()), ()))) (fun (x5 : ((Unit × Unit) → (Option ((Bool × Unit) × Unit)))) => (loopN (d43_L2 x0 x5) x0 ((), ((0 : Int), (x1.2.2.1, (x1.2.1, (x1.1, ((((List.length x1.1) : Nat) : Int), ())))))))))))))))
theorem k43 : c_fn Tryd.prog [(44, ⟨s44, d44⟩)] Tryd.f43 s43 h43 = some d43 := by kernel_rfl
/-- slices.EqualFunc[[]bulkhead/api.Channel,[]bulkhead/api.Channel,bulkhead/api.Channel,bulkhead/api.Channel] -/
def s45 : Sig := ⟨[((.sl 62 (.pair (.int .i64) (.pair (.int .i64) (.pair (.sl 3 (.int .i64)) (.pair (.int .i64) (.pair (.int .i64) .unit)))))), .val), ((.sl 62 (.pair (.int .i64) (.pair (.int .i64) (.pair (.sl 3 (.int .i64)) (.pair (.int .i64) (.pair (.int .i64) .unit)))))), .val), ((.fn 46 .unit), .val)], [(.bool, .val)]⟩
 def h45 : Hint := (.seq .leaf
   (.seq (.seq .leaf
   (.cond none
     (.seq .leaf
     .leaf)
     .leaf))
   (.seq (.seq .leaf
   (.block ⟨[], []⟩ true
     (.loop ⟨[], [((17, 0), (.val (.int .i64))), ((2, 0), (.val (.fn 46 .unit))), ((1, 0), (.val (.sl 62 (.pair (.int .i64) (.pair (.int .i64) (.pair (.sl 3 (.int .i64)) (.pair (.int .i64) (.pair (.int .i64) .unit)))))))), ((15, 0), (.val (.sl 62 (.pair (.int .i64) (.pair (.int .i64) (.pair (.sl 3 (.int .i64)) (.pair (.int .i64) (.pair (.int .i64) .unit)))))))), ((16, 0), (.val (.int .i64)))]⟩
       (.seq .leaf
       (.seq (.cond none
         .leaf
         .leaf)
       (.seq (.block ⟨[], [((2, 0), (.val (.fn 46 .unit))), ((1, 0), (.val (.sl 62 (.pair (.int .i64) (.pair (.int .i64) (.pair (.sl 3 (.int .i64)) (.pair (.int .i64) (.pair (.int .i64) .unit)))))))), ((15, 0), (.val (.sl 62 (.pair (.int .i64) (.pair (.int .i64) (.pair (.sl 3 (.int .i64)) (.pair (.int .i64) (.pair (.int .i64) .unit)))))))), ((16, 0), (.val (.int .i64))), ((17, 0), (.val (.int .i64)))]⟩ true
         (.seq .leaf
         (.seq .leaf
         (.seq .leaf
         (.cond none
           (.seq .leaf
           .leaf)
           .leaf)))))
       .leaf))))))
   (.seq .leaf
   .leaf))))
def d45_K1 (x6 : ((Unit × (Int × (Unit × ((List CH) × ((List CH) × (Int × Unit)))))) → (Option ((Bool × Unit) × Unit)))) : ((Unit × (Unit × ((List CH) × ((List CH) × (Int × (Int × Unit)))))) → (Option ((Bool × Unit) × Unit))) :=
  (fun (x9 : (Unit × (Unit × ((List CH) × ((List CH) × (Int × (Int × Unit))))))) => (x6 ((), ((Go.IntKind.wrap Go.IntKind.i64 (x9.2.2.2.2.2.1 + (1 : Int))), (x9.2.1, (x9.2.2.1, (x9.2.2.2.1, (x9.2.2.2.2.1, ()))))))))
def d45_L2 (x0 : Nat) (x5 : ((Unit × Unit) → (Option ((Bool × Unit) × Unit)))) : (((Unit × (Int × (Unit × ((List CH) × ((List CH) × (Int × Unit)))))) → (Option ((Bool × Unit) × Unit))) → ((Unit × (Int × (Unit × ((List CH) × ((List CH) × (Int × Unit)))))) → (Option ((Bool × Unit) × Unit)))) :=
  (fun (x6 : ((Unit × (Int × (Unit × ((List CH) × ((List CH) × (Int × Unit)))))) → (Option ((Bool × Unit) × Unit)))) => (fun (x7 : (Unit × (Int × (Unit × ((List CH) × ((List CH) × (Int × Unit))))))) => (lt (Decidable.decide (x7.2.1 < x7.2.2.2.2.2.1)) fun (x8 : Bool) =>
  (if (x8 = Bool.true) then
  (shr (d45_K1 x6) (fun (x9 : ((Unit × (Unit × ((List CH) × ((List CH) × (Int × (Int × Unit)))))) → (Option ((Bool × Unit) × Unit)))) => (if (((Decidable.decide ((0 : Int) ≤ x7.2.1)) && (Decidable.decide (x7.2.1 < (((List.length x7.2.2.2.2.1) : Nat) : Int)))) = Bool.true) then
  (lt (List.getD x7.2.2.2.2.1 (Int.toNat x7.2.1) ((0 : Int), ((0 : Int), (([] : List Int), ((0 : Int), ((0 : Int), ())))))) fun (x10 : CH) =>
  (if (((Decidable.decide ((0 : Int) ≤ x7.2.1)) && (Decidable.decide (x7.2.1 < (((List.length x7.2.2.2.1) : Nat) : Int)))) = Bool.true) then
  (lt (List.getD x7.2.2.2.1 (Int.toNat x7.2.1) ((0 : Int), ((0 : Int), (([] : List Int), ((0 : Int), ((0 : Int), ())))))) fun (x11 : CH) =>
  (Option.bind (d46 x0 (x10, (x11, ()))) fun (x12 : ((Bool × Unit) × Unit)) =>
  (lt (Bool.not x12.1.1) fun (x13 : Bool) =>
  (if (x13 = Bool.true) then
  (Option.some ((Bool.false, ()), ()))
  else (x9 ((), (x7.2.2.1, (x7.2.2.2.1, (x7.2.2.2.2.1, (x7.2.2.2.2.2.1, (x7.2.1, ())))))))))))
  else (Option.none)))
  else (Option.none))))
  else (x5 ((), ()))))))
def d45 : (Nat → (((List CH) × ((List CH) × (Unit × Unit))) → (Option ((Bool × Unit) × Unit)))) :=
  (fun (x0 : Nat) => (fun (x1 : ((List CH) × ((List CH) × (Unit × Unit)))) => (lt (((List.length x1.1) : Nat) : Int) fun (x2 : Int) =>
  (lt (((List.length x1.2.1) : Nat) : Int) fun (x3 : Int) =>
  (lt (x2 != x3) fun (x4 : Bool) =>
  (if (x4 = Bool.true) then
  (Option.some ((Bool.false, ()), ()))
  else (shr (fun (x5 : (Unit × Unit)) => (Option.some ((Bool.true, ()), ()))) (fun (x5 : ((Unit × Unit) → (Option ((Bool × Unit) × Unit)))) => (loopN (d45_L2 x0 x5) x0 ((), ((0 : Int), (x1.2.2.1, (x1.2.1, (x1.1, ((((List.length x1.1) : Nat) : Int), ())))))))))))))))
theorem k45 : c_fn Tryd.prog [(46, ⟨s46, d46⟩)] Tryd.f45 s45 h45 = some d45 := by kernel_rfl
/-- slices.Equal[[]bulkhead/api.Port,bulkhead/api.Port] -/
def s48 : Sig := ⟨[((.sl 65 (.pair (.int .i64) (.pair (.int .i64) (.pair .bool (.pair (.int .i64) (.pair (.int .i64) (.pair (.int .i64) .unit))))))), .val), ((.sl 65 (.pair (.int .i64) (.pair (.int .i64) (.pair .bool (.pair (.int .i64) (.pair (.int .i64) (.pair (.int .i64) .unit))))))), .val)], [(.bool, .val)]⟩
 def h48 : Hint := (.seq .leaf
   (.seq (.seq .leaf
   (.cond none
     (.seq .leaf
     .leaf)
     .leaf))
   (.seq (.seq .leaf
   (.block ⟨[], []⟩ true
     (.loop ⟨[], [((13, 0), (.val (.int .i64))), ((1, 0), (.val (.sl 65 (.pair (.int .i64) (.pair (.int .i64) (.pair .bool (.pair (.int .i64) (.pair (.int .i64) (.pair (.int .i64) .unit))))))))), ((0, 0), (.val (.sl 65 (.pair (.int .i64) (.pair (.int .i64) (.pair .bool (.pair (.int .i64) (.pair (.int .i64) (.pair (.int .i64) .unit))))))))), ((12, 0), (.val (.int .i64)))]⟩
       (.seq .leaf
       (.seq (.cond none
         .leaf
         .leaf)
       (.seq (.block ⟨[], [((1, 0), (.val (.sl 65 (.pair (.int .i64) (.pair (.int .i64) (.pair .bool (.pair (.int .i64) (.pair (.int .i64) (.pair (.int .i64) .unit))))))))), ((0, 0), (.val (.sl 65 (.pair (.int .i64) (.pair (.int .i64) (.pair .bool (.pair (.int .i64) (.pair (.int .i64) (.pair (.int .i64) .unit))))))))), ((12, 0), (.val (.int .i64))), ((13, 0), (.val (.int .i64)))]⟩ true
         (.seq .leaf
         (.seq .leaf
         (.cond none
           (.seq .leaf
           .leaf)
           .leaf))))
       .leaf))))))
   (.seq .leaf
   .leaf))))
def d48_K1 (x6 : ((Unit × (Int × ((List PO) × ((List PO) × (Int × Unit))))) → (Option ((Bool × Unit) × Unit)))) : ((Unit × ((List PO) × ((List PO) × (Int × (Int × Unit))))) → (Option ((Bool × Unit) × Unit))) :=
  (fun (x9 : (Unit × ((List PO) × ((List PO) × (Int × (Int × Unit)))))) => (x6 ((), ((Go.IntKind.wrap Go.IntKind.i64 (x9.2.2.2.2.1 + (1 : Int))), (x9.2.1, (x9.2.2.1, (x9.2.2.2.1, ())))))))
def d48_L2 (x5 : ((Unit × Unit) → (Option ((Bool × Unit) × Unit)))) : (((Unit × (Int × ((List PO) × ((List PO) × (Int × Unit))))) → (Option ((Bool × Unit) × Unit))) → ((Unit × (Int × ((List PO) × ((List PO) × (Int × Unit))))) → (Option ((Bool × Unit) × Unit)))) :=
  (fun (x6 : ((Unit × (Int × ((List PO) × ((List PO) × (Int × Unit))))) → (Option ((Bool × Unit) × Unit)))) => (fun (x7 : (Unit × (Int × ((List PO) × ((List PO) × (Int × Unit)))))) => (lt (Decidable.decide (x7.2.1 < x7.2.2.2.2.1)) fun (x8 : Bool) =>
  (if (x8 = Bool.true) then
  (shr (d48_K1 x6) (fun (x9 : ((Unit × ((List PO) × ((List PO) × (Int × (Int × Unit))))) → (Option ((Bool × Unit) × Unit)))) => (if (((Decidable.decide ((0 : Int) ≤ x7.2.1)) && (Decidable.decide (x7.2.1 < (((List.length x7.2.2.2.1) : Nat) : Int)))) = Bool.true) then
  (lt (List.getD x7.2.2.2.1 (Int.toNat x7.2.1) ((0 : Int), ((0 : Int), (Bool.false, ((0 : Int), ((0 : Int), ((0 : Int), ()))))))) fun (x10 : PO) =>
  (if (((Decidable.decide ((0 : Int) ≤ x7.2.1)) && (Decidable.decide (x7.2.1 < (((List.length x7.2.2.1) : Nat) : Int)))) = Bool.true) then
  (lt (List.getD x7.2.2.1 (Int.toNat x7.2.1) ((0 : Int), ((0 : Int), (Bool.false, ((0 : Int), ((0 : Int), ((0 : Int), ()))))))) fun (x11 : PO) =>
  (lt (Bool.not ((x10.1 == x11.1) && ((x10.2.1 == x11.2.1) && ((x10.2.2.1 == x11.2.2.1) && ((x10.2.2.2.1 == x11.2.2.2.1) && ((x10.2.2.2.2.1 == x11.2.2.2.2.1) && ((x10.2.2.2.2.2.1 == x11.2.2.2.2.2.1) && Bool.true))))))) fun (x12 : Bool) =>
  (if (x12 = Bool.true) then
  (Option.some ((Bool.false, ()), ()))
  else (x9 ((), (x7.2.2.1, (x7.2.2.2.1, (x7.2.2.2.2.1, (x7.2.1, ())))))))))
  else (Option.none)))
  else (Option.none))))
  else (x5 ((), ()))))))
def d48 : (Nat → (((List PO) × ((List PO) × Unit)) → (Option ((Bool × Unit) × Unit)))) :=
  (fun (x0 : Nat) => (fun (x1 : ((List PO) × ((List PO) × Unit))) => (lt (((List.length x1.1) : Nat) : Int) fun (x2 : Int) =>
  (lt (((List.length x1.2.1) : Nat) : Int) fun (x3 : Int) =>
  (lt (x2 != x3) fun (x4 : Bool) =>
  (if (x4 = Bool.true) then
  (Option.some ((Bool.false, ()), ()))
  else (shr (fun (x5 : (Unit × Unit)) => (Option.some ((Bool.true, ()), ()))) (fun (x5 : ((Unit × Unit) → (Option ((Bool × Unit) × Unit)))) => (loopN (d48_L2 x5) x0 ((), ((0 : Int), (x1.2.1, (x1.1, ((((List.length x1.1) : Nat) : Int), ()))))))))))))))
theorem k48 : c_fn Tryd.prog [] Tryd.f48 s48 h48 = some d48 := by kernel_rfl
/-- slices.Equal[[]int64,int64] -/
def s61 : Sig := ⟨[((.sl 2 (.int .i64)), .val), ((.sl 2 (.int .i64)), .val)], [(.bool, .val)]⟩
 def h61 : Hint := (.seq .leaf
   (.seq (.seq .leaf
   (.cond none
     (.seq .leaf
     .leaf)
     .leaf))
   (.seq (.seq .leaf
   (.block ⟨[], []⟩ true
     (.loop ⟨[], [((13, 0), (.val (.int .i64))), ((1, 0), (.val (.sl 2 (.int .i64)))), ((0, 0), (.val (.sl 2 (.int .i64)))), ((12, 0), (.val (.int .i64)))]⟩
       (.seq .leaf
       (.seq (.cond none
         .leaf
         .leaf)
       (.seq (.block ⟨[], [((1, 0), (.val (.sl 2 (.int .i64)))), ((0, 0), (.val (.sl 2 (.int .i64)))), ((12, 0), (.val (.int .i64))), ((13, 0), (.val (.int .i64)))]⟩ true
         (.seq .leaf
         (.seq .leaf
         (.cond none
           (.seq .leaf
           .leaf)
           .leaf))))
       .leaf))))))
   (.seq .leaf
   .leaf))))
def d61_K1 (x6 : ((Unit × (Int × ((List Int) × ((List Int) × (Int × Unit))))) → (Option ((Bool × Unit) × Unit)))) : ((Unit × ((List Int) × ((List Int) × (Int × (Int × Unit))))) → (Option ((Bool × Unit) × Unit))) :=
  (fun (x9 : (Unit × ((List Int) × ((List Int) × (Int × (Int × Unit)))))) => (x6 ((), ((Go.IntKind.wrap Go.IntKind.i64 (x9.2.2.2.2.1 + (1 : Int))), (x9.2.1, (x9.2.2.1, (x9.2.2.2.1, ())))))))
def d61_L2 (x5 : ((Unit × Unit) → (Option ((Bool × Unit) × Unit)))) : (((Unit × (Int × ((List Int) × ((List Int) × (Int × Unit))))) → (Option ((Bool × Unit) × Unit))) → ((Unit × (Int × ((List Int) × ((List Int) × (Int × Unit))))) → (Option ((Bool × Unit) × Unit)))) :=
  (fun (x6 : ((Unit × (Int × ((List Int) × ((List Int) × (Int × Unit))))) → (Option ((Bool × Unit) × Unit)))) => (fun (x7 : (Unit × (Int × ((List Int) × ((List Int) × (Int × Unit)))))) => (lt (Decidable.decide (x7.2.1 < x7.2.2.2.2.1)) fun (x8 : Bool) =>
  (if (x8 = Bool.true) then
  (shr (d61_K1 x6) (fun (x9 : ((Unit × ((List Int) × ((List Int) × (Int × (Int × Unit))))) → (Option ((Bool × Unit) × Unit)))) => (if (((Decidable.decide ((0 : Int) ≤ x7.2.1)) && (Decidable.decide (x7.2.1 < (((List.length x7.2.2.2.1) : Nat) : Int)))) = Bool.true) then
  (lt (List.getD x7.2.2.2.1 (Int.toNat x7.2.1) (0 : Int)) fun (x10 : Int) =>
  (if (((Decidable.decide ((0 : Int) ≤ x7.2.1)) && (Decidable.decide (x7.2.1 < (((List.length x7.2.2.1) : Nat) : Int)))) = Bool.true) then
  (lt (List.getD x7.2.2.1 (Int.toNat x7.2.1) (0 : Int)) fun (x11 : Int) =>
  (lt (x10 != x11) fun (x12 : Bool) =>
  (if (x12 = Bool.true) then
  (Option.some ((Bool.false, ()), ()))
  else (x9 ((), (x7.2.2.1, (x7.2.2.2.1, (x7.2.2.2.2.1, (x7.2.1, ())))))))))
  else (Option.none)))
  else (Option.none))))
  else (x5 ((), ()))))))
def d61 : (Nat → (((List Int) × ((List Int) × Unit)) → (Option ((Bool × Unit) × Unit)))) :=
  (fun (x0 : Nat) => (fun (x1 : ((List Int) × ((List Int) × Unit))) => (lt (((List.length x1.1) : Nat) : Int) fun (x2 : Int) =>
  (lt (((List.length x1.2.1) : Nat) : Int) fun (x3 : Int) =>
  (lt (x2 != x3) fun (x4 : Bool) =>
  (if (x4 = Bool.true) then
  (Option.some ((Bool.false, ()), ()))
  else (shr (fun (x5 : (Unit × Unit)) => (Option.some ((Bool.true, ()), ()))) (fun (x5 : ((Unit × Unit) → (Option ((Bool × Unit) × Unit)))) => (loopN (d61_L2 x5) x0 ((), ((0 : Int), (x1.2.1, (x1.1, ((((List.length x1.1) : Nat) : Int), ()))))))))))))))
theorem k61 : c_fn Tryd.prog [] Tryd.f61 s61 h61 = some d61 := by kernel_rfl
/-- slices.Equal[[]bulkhead/api.Instr,bulkhead/api.Instr] -/
def s62 : Sig := ⟨[((.sl 57 (.pair (.int .u8) (.pair (.int .u8) (.pair (.int .u8) (.pair (.int .u8) (.pair (.int .i32) .unit)))))), .val), ((.sl 57 (.pair (.int .u8) (.pair (.int .u8) (.pair (.int .u8) (.pair (.int .u8) (.pair (.int .i32) .unit)))))), .val)], [(.bool, .val)]⟩
 def h62 : Hint := (.seq .leaf
   (.seq (.seq .leaf
   (.cond none
     (.seq .leaf
     .leaf)
     .leaf))
   (.seq (.seq .leaf
   (.block ⟨[], []⟩ true
     (.loop ⟨[], [((13, 0), (.val (.int .i64))), ((1, 0), (.val (.sl 57 (.pair (.int .u8) (.pair (.int .u8) (.pair (.int .u8) (.pair (.int .u8) (.pair (.int .i32) .unit)))))))), ((0, 0), (.val (.sl 57 (.pair (.int .u8) (.pair (.int .u8) (.pair (.int .u8) (.pair (.int .u8) (.pair (.int .i32) .unit)))))))), ((12, 0), (.val (.int .i64)))]⟩
       (.seq .leaf
       (.seq (.cond none
         .leaf
         .leaf)
       (.seq (.block ⟨[], [((1, 0), (.val (.sl 57 (.pair (.int .u8) (.pair (.int .u8) (.pair (.int .u8) (.pair (.int .u8) (.pair (.int .i32) .unit)))))))), ((0, 0), (.val (.sl 57 (.pair (.int .u8) (.pair (.int .u8) (.pair (.int .u8) (.pair (.int .u8) (.pair (.int .i32) .unit)))))))), ((12, 0), (.val (.int .i64))), ((13, 0), (.val (.int .i64)))]⟩ true
         (.seq .leaf
         (.seq .leaf
         (.cond none
           (.seq .leaf
           .leaf)
           .leaf))))
       .leaf))))))
   (.seq .leaf
   .leaf))))
def d62_K1 (x6 : ((Unit × (Int × ((List (Int × (Int × (Int × (Int × (Int × Unit)))))) × ((List (Int × (Int × (Int × (Int × (Int × Unit)))))) × (Int × Unit))))) → (Option ((Bool × Unit) × Unit)))) : ((Unit × ((List (Int × (Int × (Int × (Int × (Int × Unit)))))) × ((List (Int × (Int × (Int × (Int × (Int × Unit)))))) × (Int × (Int × Unit))))) → (Option ((Bool × Unit) × Unit))) :=
  (fun (x9 : (Unit × ((List (Int × (Int × (Int × (Int × (Int × Unit)))))) × ((List (Int × (Int × (Int × (Int × (Int × Unit)))))) × (Int × (Int × Unit)))))) => (x6 ((), ((Go.IntKind.wrap Go.IntKind.i64 (x9.2.2.2.2.1 + (1 : Int))), (x9.2.1, (x9.2.2.1, (x9.2.2.2.1, ())))))))
def d62_L2 (x5 : ((Unit × Unit) → (Option ((Bool × Unit) × Unit)))) : (((Unit × (Int × ((List (Int × (Int × (Int × (Int × (Int × Unit)))))) × ((List (Int × (Int × (Int × (Int × (Int × Unit)))))) × (Int × Unit))))) → (Option ((Bool × Unit) × Unit))) → ((Unit × (Int × ((List (Int × (Int × (Int × (Int × (Int × Unit)))))) × ((List (Int × (Int × (Int × (Int × (Int × Unit)))))) × (Int × Unit))))) → (Option ((Bool × Unit) × Unit)))) :=
  (fun (x6 : ((Unit × (Int × ((List (Int × (Int × (Int × (Int × (Int × Unit)))))) × ((List (Int × (Int × (Int × (Int × (Int × Unit)))))) × (Int × Unit))))) → (Option ((Bool × Unit) × Unit)))) => (fun (x7 : (Unit × (Int × ((List (Int × (Int × (Int × (Int × (Int × Unit)))))) × ((List (Int × (Int × (Int × (Int × (Int × Unit)))))) × (Int × Unit)))))) => (lt (Decidable.decide (x7.2.1 < x7.2.2.2.2.1)) fun (x8 : Bool) =>
  (if (x8 = Bool.true) then
  (shr (d62_K1 x6) (fun (x9 : ((Unit × ((List (Int × (Int × (Int × (Int × (Int × Unit)))))) × ((List (Int × (Int × (Int × (Int × (Int × Unit)))))) × (Int × (Int × Unit))))) → (Option ((Bool × Unit) × Unit)))) => (if (((Decidable.decide ((0 : Int) ≤ x7.2.1)) && (Decidable.decide (x7.2.1 < (((List.length x7.2.2.2.1) : Nat) : Int)))) = Bool.true) then
  (lt (List.getD x7.2.2.2.1 (Int.toNat x7.2.1) ((0 : Int), ((0 : Int), ((0 : Int), ((0 : Int), ((0 : Int), ())))))) fun (x10 : (Int × (Int × (Int × (Int × (Int × Unit)))))) =>
  (if (((Decidable.decide ((0 : Int) ≤ x7.2.1)) && (Decidable.decide (x7.2.1 < (((List.length x7.2.2.1) : Nat) : Int)))) = Bool.true) then
  (lt (List.getD x7.2.2.1 (Int.toNat x7.2.1) ((0 : Int), ((0 : Int), ((0 : Int), ((0 : Int), ((0 : Int), ())))))) fun (x11 : (Int × (Int × (Int × (Int × (Int × Unit)))))) =>
  (lt (Bool.not ((x10.1 == x11.1) && ((x10.2.1 == x11.2.1) && ((x10.2.2.1 == x11.2.2.1) && ((x10.2.2.2.1 == x11.2.2.2.1) && ((x10.2.2.2.2.1 == x11.2.2.2.2.1) && Bool.true)))))) fun (x12 : Bool) =>
  (if (x12 = Bool.true) then
  (Option.some ((Bool.false, ()), ()))
  else (x9 ((), (x7.2.2.1, (x7.2.2.2.1, (x7.2.2.2.2.1, (x7.2.1, ())))))))))
  else (Option.none)))
  else (Option.none))))
  else (x5 ((), ()))))))
def d62 : (Nat → (((List (Int × (Int × (Int × (Int × (Int × Unit)))))) × ((List (Int × (Int × (Int × (Int × (Int × Unit)))))) × Unit)) → (Option ((Bool × Unit) × Unit)))) :=
  (fun (x0 : Nat) => (fun (x1 : ((List (Int × (Int × (Int × (Int × (Int × Unit)))))) × ((List (Int × (Int × (Int × (Int × (Int × Unit)))))) × Unit))) => (lt (((List.length x1.1) : Nat) : Int) fun (x2 : Int) =>
  (lt (((List.length x1.2.1) : Nat) : Int) fun (x3 : Int) =>
  (lt (x2 != x3) fun (x4 : Bool) =>
  (if (x4 = Bool.true) then
  (Option.some ((Bool.false, ()), ()))
  else (shr (fun (x5 : (Unit × Unit)) => (Option.some ((Bool.true, ()), ()))) (fun (x5 : ((Unit × Unit) → (Option ((Bool × Unit) × Unit)))) => (loopN (d62_L2 x5) x0 ((), ((0 : Int), (x1.2.1, (x1.1, ((((List.length x1.1) : Nat) : Int), ()))))))))))))))
theorem k62 : c_fn Tryd.prog [] Tryd.f62 s62 h62 = some d62 := by kernel_rfl
/-- slices.Equal[[]bulkhead/api.Proc,bulkhead/api.Proc] -/
def s63 : Sig := ⟨[((.sl 94 (.pair (.int .i64) (.pair (.int .i64) (.pair (.int .i64) (.pair (.int .i64) (.pair (.int .i64) (.pair .bool .unit))))))), .val), ((.sl 94 (.pair (.int .i64) (.pair (.int .i64) (.pair (.int .i64) (.pair (.int .i64) (.pair (.int .i64) (.pair .bool .unit))))))), .val)], [(.bool, .val)]⟩
 def h63 : Hint := (.seq .leaf
   (.seq (.seq .leaf
   (.cond none
     (.seq .leaf
     .leaf)
     .leaf))
   (.seq (.seq .leaf
   (.block ⟨[], []⟩ true
     (.loop ⟨[], [((13, 0), (.val (.int .i64))), ((1, 0), (.val (.sl 94 (.pair (.int .i64) (.pair (.int .i64) (.pair (.int .i64) (.pair (.int .i64) (.pair (.int .i64) (.pair .bool .unit))))))))), ((0, 0), (.val (.sl 94 (.pair (.int .i64) (.pair (.int .i64) (.pair (.int .i64) (.pair (.int .i64) (.pair (.int .i64) (.pair .bool .unit))))))))), ((12, 0), (.val (.int .i64)))]⟩
       (.seq .leaf
       (.seq (.cond none
         .leaf
         .leaf)
       (.seq (.block ⟨[], [((1, 0), (.val (.sl 94 (.pair (.int .i64) (.pair (.int .i64) (.pair (.int .i64) (.pair (.int .i64) (.pair (.int .i64) (.pair .bool .unit))))))))), ((0, 0), (.val (.sl 94 (.pair (.int .i64) (.pair (.int .i64) (.pair (.int .i64) (.pair (.int .i64) (.pair (.int .i64) (.pair .bool .unit))))))))), ((12, 0), (.val (.int .i64))), ((13, 0), (.val (.int .i64)))]⟩ true
         (.seq .leaf
         (.seq .leaf
         (.cond none
           (.seq .leaf
           .leaf)
           .leaf))))
       .leaf))))))
   (.seq .leaf
   .leaf))))
def d63_K1 (x6 : ((Unit × (Int × ((List (Int × (Int × (Int × (Int × (Int × (Bool × Unit))))))) × ((List (Int × (Int × (Int × (Int × (Int × (Bool × Unit))))))) × (Int × Unit))))) → (Option ((Bool × Unit) × Unit)))) : ((Unit × ((List (Int × (Int × (Int × (Int × (Int × (Bool × Unit))))))) × ((List (Int × (Int × (Int × (Int × (Int × (Bool × Unit))))))) × (Int × (Int × Unit))))) → (Option ((Bool × Unit) × Unit))) :=
  (fun (x9 : (Unit × ((List (Int × (Int × (Int × (Int × (Int × (Bool × Unit))))))) × ((List (Int × (Int × (Int × (Int × (Int × (Bool × Unit))))))) × (Int × (Int × Unit)))))) => (x6 ((), ((Go.IntKind.wrap Go.IntKind.i64 (x9.2.2.2.2.1 + (1 : Int))), (x9.2.1, (x9.2.2.1, (x9.2.2.2.1, ())))))))
def d63_L2 (x5 : ((Unit × Unit) → (Option ((Bool × Unit) × Unit)))) : (((Unit × (Int × ((List (Int × (Int × (Int × (Int × (Int × (Bool × Unit))))))) × ((List (Int × (Int × (Int × (Int × (Int × (Bool × Unit))))))) × (Int × Unit))))) → (Option ((Bool × Unit) × Unit))) → ((Unit × (Int × ((List (Int × (Int × (Int × (Int × (Int × (Bool × Unit))))))) × ((List (Int × (Int × (Int × (Int × (Int × (Bool × Unit))))))) × (Int × Unit))))) → (Option ((Bool × Unit) × Unit)))) :=
  (fun (x6 : ((Unit × (Int × ((List (Int × (Int × (Int × (Int × (Int × (Bool × Unit))))))) × ((List (Int × (Int × (Int × (Int × (Int × (Bool × Unit))))))) × (Int × Unit))))) → (Option ((Bool × Unit) × Unit)))) => (fun (x7 : (Unit × (Int × ((List (Int × (Int × (Int × (Int × (Int × (Bool × Unit))))))) × ((List (Int × (Int × (Int × (Int × (Int × (Bool × Unit))))))) × (Int × Unit)))))) => (lt (Decidable.decide (x7.2.1 < x7.2.2.2.2.1)) fun (x8 : Bool) =>
  (if (x8 = Bool.true) then
  (shr (d63_K1 x6) (fun (x9 : ((Unit × ((List (Int × (Int × (Int × (Int × (Int × (Bool × Unit))))))) × ((List (Int × (Int × (Int × (Int × (Int × (Bool × Unit))))))) × (Int × (Int × Unit))))) → (Option ((Bool × Unit) × Unit)))) => (if (((Decidable.decide ((0 : Int) ≤ x7.2.1)) && (Decidable.decide (x7.2.1 < (((List.length x7.2.2.2.1) : Nat) : Int)))) = Bool.true) then
  (lt (List.getD x7.2.2.2.1 (Int.toNat x7.2.1) ((0 : Int), ((0 : Int), ((0 : Int), ((0 : Int), ((0 : Int), (Bool.false, ()))))))) fun (x10 : (Int × (Int × (Int × (Int × (Int × (Bool × Unit))))))) =>
  (if (((Decidable.decide ((0 : Int) ≤ x7.2.1)) && (Decidable.decide (x7.2.1 < (((List.length x7.2.2.1) : Nat) : Int)))) = Bool.true) then
  (lt (List.getD x7.2.2.1 (Int.toNat x7.2.1) ((0 : Int), ((0 : Int), ((0 : Int), ((0 : Int), ((0 : Int), (Bool.false, ()))))))) fun (x11 : (Int × (Int × (Int × (Int × (Int × (Bool × Unit))))))) =>
  (lt (Bool.not ((x10.1 == x11.1) && ((x10.2.1 == x11.2.1) && ((x10.2.2.1 == x11.2.2.1) && ((x10.2.2.2.1 == x11.2.2.2.1) && ((x10.2.2.2.2.1 == x11.2.2.2.2.1) && ((x10.2.2.2.2.2.1 == x11.2.2.2.2.2.1) && Bool.true))))))) fun (x12 : Bool) =>
  (if (x12 = Bool.true) then
  (Option.some ((Bool.false, ()), ()))
  else (x9 ((), (x7.2.2.1, (x7.2.2.2.1, (x7.2.2.2.2.1, (x7.2.1, ())))))))))
  else (Option.none)))
  else (Option.none))))
  else (x5 ((), ()))))))
def d63 : (Nat → (((List (Int × (Int × (Int × (Int × (Int × (Bool × Unit))))))) × ((List (Int × (Int × (Int × (Int × (Int × (Bool × Unit))))))) × Unit)) → (Option ((Bool × Unit) × Unit)))) :=
  (fun (x0 : Nat) => (fun (x1 : ((List (Int × (Int × (Int × (Int × (Int × (Bool × Unit))))))) × ((List (Int × (Int × (Int × (Int × (Int × (Bool × Unit))))))) × Unit))) => (lt (((List.length x1.1) : Nat) : Int) fun (x2 : Int) =>
  (lt (((List.length x1.2.1) : Nat) : Int) fun (x3 : Int) =>
  (lt (x2 != x3) fun (x4 : Bool) =>
  (if (x4 = Bool.true) then
  (Option.some ((Bool.false, ()), ()))
  else (shr (fun (x5 : (Unit × Unit)) => (Option.some ((Bool.true, ()), ()))) (fun (x5 : ((Unit × Unit) → (Option ((Bool × Unit) × Unit)))) => (loopN (d63_L2 x5) x0 ((), ((0 : Int), (x1.2.1, (x1.1, ((((List.length x1.1) : Nat) : Int), ()))))))))))))))
theorem k63 : c_fn Tryd.prog [] Tryd.f63 s63 h63 = some d63 := by kernel_rfl
/-- slices.Equal[[]bulkhead/api.Sem,bulkhead/api.Sem] -/
def s64 : Sig := ⟨[((.sl 96 (.pair (.int .i64) (.pair (.int .i64) .unit))), .val), ((.sl 96 (.pair (.int .i64) (.pair (.int .i64) .unit))), .val)], [(.bool, .val)]⟩
 def h64 : Hint := (.seq .leaf
   (.seq (.seq .leaf
   (.cond none
     (.seq .leaf
     .leaf)
     .leaf))
   (.seq (.seq .leaf
   (.block ⟨[], []⟩ true
     (.loop ⟨[], [((13, 0), (.val (.int .i64))), ((1, 0), (.val (.sl 96 (.pair (.int .i64) (.pair (.int .i64) .unit))))), ((0, 0), (.val (.sl 96 (.pair (.int .i64) (.pair (.int .i64) .unit))))), ((12, 0), (.val (.int .i64)))]⟩
       (.seq .leaf
       (.seq (.cond none
         .leaf
         .leaf)
       (.seq (.block ⟨[], [((1, 0), (.val (.sl 96 (.pair (.int .i64) (.pair (.int .i64) .unit))))), ((0, 0), (.val (.sl 96 (.pair (.int .i64) (.pair (.int .i64) .unit))))), ((12, 0), (.val (.int .i64))), ((13, 0), (.val (.int .i64)))]⟩ true
         (.seq .leaf
         (.seq .leaf
         (.cond none
           (.seq .leaf
           .leaf)
           .leaf))))
       .leaf))))))
   (.seq .leaf
   .leaf))))
def d64_K1 (x6 : ((Unit × (Int × ((List (Int × (Int × Unit))) × ((List (Int × (Int × Unit))) × (Int × Unit))))) → (Option ((Bool × Unit) × Unit)))) : ((Unit × ((List (Int × (Int × Unit))) × ((List (Int × (Int × Unit))) × (Int × (Int × Unit))))) → (Option ((Bool × Unit) × Unit))) :=
  (fun (x9 : (Unit × ((List (Int × (Int × Unit))) × ((List (Int × (Int × Unit))) × (Int × (Int × Unit)))))) => (x6 ((), ((Go.IntKind.wrap Go.IntKind.i64 (x9.2.2.2.2.1 + (1 : Int))), (x9.2.1, (x9.2.2.1, (x9.2.2.2.1, ())))))))
def d64_L2 (x5 : ((Unit × Unit) → (Option ((Bool × Unit) × Unit)))) : (((Unit × (Int × ((List (Int × (Int × Unit))) × ((List (Int × (Int × Unit))) × (Int × Unit))))) → (Option ((Bool × Unit) × Unit))) → ((Unit × (Int × ((List (Int × (Int × Unit))) × ((List (Int × (Int × Unit))) × (Int × Unit))))) → (Option ((Bool × Unit) × Unit)))) :=
  (fun (x6 : ((Unit × (Int × ((List (Int × (Int × Unit))) × ((List (Int × (Int × Unit))) × (Int × Unit))))) → (Option ((Bool × Unit) × Unit)))) => (fun (x7 : (Unit × (Int × ((List (Int × (Int × Unit))) × ((List (Int × (Int × Unit))) × (Int × Unit)))))) => (lt (Decidable.decide (x7.2.1 < x7.2.2.2.2.1)) fun (x8 : Bool) =>
  (if (x8 = Bool.true) then
  (shr (d64_K1 x6) (fun (x9 : ((Unit × ((List (Int × (Int × Unit))) × ((List (Int × (Int × Unit))) × (Int × (Int × Unit))))) → (Option ((Bool × Unit) × Unit)))) => (if (((Decidable.decide ((0 : Int) ≤ x7.2.1)) && (Decidable.decide (x7.2.1 < (((List.length x7.2.2.2.1) : Nat) : Int)))) = Bool.true) then
  (lt (List.getD x7.2.2.2.1 (Int.toNat x7.2.1) ((0 : Int), ((0 : Int), ()))) fun (x10 : (Int × (Int × Unit))) =>
  (if (((Decidable.decide ((0 : Int) ≤ x7.2.1)) && (Decidable.decide (x7.2.1 < (((List.length x7.2.2.1) : Nat) : Int)))) = Bool.true) then
  (lt (List.getD x7.2.2.1 (Int.toNat x7.2.1) ((0 : Int), ((0 : Int), ()))) fun (x11 : (Int × (Int × Unit))) =>
  (lt (Bool.not ((x10.1 == x11.1) && ((x10.2.1 == x11.2.1) && Bool.true))) fun (x12 : Bool) =>
  (if (x12 = Bool.true) then
  (Option.some ((Bool.false, ()), ()))
  else (x9 ((), (x7.2.2.1, (x7.2.2.2.1, (x7.2.2.2.2.1, (x7.2.1, ())))))))))
  else (Option.none)))
  else (Option.none))))
  else (x5 ((), ()))))))
def d64 : (Nat → (((List (Int × (Int × Unit))) × ((List (Int × (Int × Unit))) × Unit)) → (Option ((Bool × Unit) × Unit)))) :=
  (fun (x0 : Nat) => (fun (x1 : ((List (Int × (Int × Unit))) × ((List (Int × (Int × Unit))) × Unit))) => (lt (((List.length x1.1) : Nat) : Int) fun (x2 : Int) =>
  (lt (((List.length x1.2.1) : Nat) : Int) fun (x3 : Int) =>
  (lt (x2 != x3) fun (x4 : Bool) =>
  (if (x4 = Bool.true) then
  (Option.some ((Bool.false, ()), ()))
  else (shr (fun (x5 : (Unit × Unit)) => (Option.some ((Bool.true, ()), ()))) (fun (x5 : ((Unit × Unit) → (Option ((Bool × Unit) × Unit)))) => (loopN (d64_L2 x5) x0 ((), ((0 : Int), (x1.2.1, (x1.1, ((((List.length x1.1) : Nat) : Int), ()))))))))))))))
theorem k64 : c_fn Tryd.prog [] Tryd.f64 s64 h64 = some d64 := by kernel_rfl
/-- slices.Equal[[]bool,bool] -/
def s65 : Sig := ⟨[((.sl 4 .bool), .val), ((.sl 4 .bool), .val)], [(.bool, .val)]⟩
 def h65 : Hint := (.seq .leaf
   (.seq (.seq .leaf
   (.cond none
     (.seq .leaf
     .leaf)
     .leaf))
   (.seq (.seq .leaf
   (.block ⟨[], []⟩ true
     (.loop ⟨[], [((13, 0), (.val (.int .i64))), ((1, 0), (.val (.sl 4 .bool))), ((0, 0), (.val (.sl 4 .bool))), ((12, 0), (.val (.int .i64)))]⟩
       (.seq .leaf
       (.seq (.cond none
         .leaf
         .leaf)
       (.seq (.block ⟨[], [((1, 0), (.val (.sl 4 .bool))), ((0, 0), (.val (.sl 4 .bool))), ((12, 0), (.val (.int .i64))), ((13, 0), (.val (.int .i64)))]⟩ true
         (.seq .leaf
         (.seq .leaf
         (.cond none
           (.seq .leaf
           .leaf)
           .leaf))))
       .leaf))))))
   (.seq .leaf
   .leaf))))
def d65_K1 (x6 : ((Unit × (Int × ((List Bool) × ((List Bool) × (Int × Unit))))) → (Option ((Bool × Unit) × Unit)))) : ((Unit × ((List Bool) × ((List Bool) × (Int × (Int × Unit))))) → (Option ((Bool × Unit) × Unit))) :=
  (fun (x9 : (Unit × ((List Bool) × ((List Bool) × (Int × (Int × Unit)))))) => (x6 ((), ((Go.IntKind.wrap Go.IntKind.i64 (x9.2.2.2.2.1 + (1 : Int))), (x9.2.1, (x9.2.2.1, (x9.2.2.2.1, ())))))))
def d65_L2 (x5 : ((Unit × Unit) → (Option ((Bool × Unit) × Unit)))) : (((Unit × (Int × ((List Bool) × ((List Bool) × (Int × Unit))))) → (Option ((Bool × Unit) × Unit))) → ((Unit × (Int × ((List Bool) × ((List Bool) × (Int × Unit))))) → (Option ((Bool × Unit) × Unit)))) :=
  (fun (x6 : ((Unit × (Int × ((List Bool) × ((List Bool) × (Int × Unit))))) → (Option ((Bool × Unit) × Unit)))) => (fun (x7 : (Unit × (Int × ((List Bool) × ((List Bool) × (Int × Unit)))))) => (lt (Decidable.decide (x7.2.1 < x7.2.2.2.2.1)) fun (x8 : Bool) =>
  (if (x8 = Bool.true) then
  (shr (d65_K1 x6) (fun (x9 : ((Unit × ((List Bool) × ((List Bool) × (Int × (Int × Unit))))) → (Option ((Bool × Unit) × Unit)))) => (if (((Decidable.decide ((0 : Int) ≤ x7.2.1)) && (Decidable.decide (x7.2.1 < (((List.length x7.2.2.2.1) : Nat) : Int)))) = Bool.true) then
  (lt (List.getD x7.2.2.2.1 (Int.toNat x7.2.1) Bool.false) fun (x10 : Bool) =>
  (if (((Decidable.decide ((0 : Int) ≤ x7.2.1)) && (Decidable.decide (x7.2.1 < (((List.length x7.2.2.1) : Nat) : Int)))) = Bool.true) then
  (lt (List.getD x7.2.2.1 (Int.toNat x7.2.1) Bool.false) fun (x11 : Bool) =>
  (lt (Bool.not (x10 == x11)) fun (x12 : Bool) =>
  (if (x12 = Bool.true) then
  (Option.some ((Bool.false, ()), ()))
  else (x9 ((), (x7.2.2.1, (x7.2.2.2.1, (x7.2.2.2.2.1, (x7.2.1, ())))))))))
  else (Option.none)))
  else (Option.none))))
  else (x5 ((), ()))))))
def d65 : (Nat → (((List Bool) × ((List Bool) × Unit)) → (Option ((Bool × Unit) × Unit)))) :=
  (fun (x0 : Nat) => (fun (x1 : ((List Bool) × ((List Bool) × Unit))) => (lt (((List.length x1.1) : Nat) : Int) fun (x2 : Int) =>
  (lt (((List.length x1.2.1) : Nat) : Int) fun (x3 : Int) =>
  (lt (x2 != x3) fun (x4 : Bool) =>
  (if (x4 = Bool.true) then
  (Option.some ((Bool.false, ()), ()))
  else (shr (fun (x5 : (Unit × Unit)) => (Option.some ((Bool.true, ()), ()))) (fun (x5 : ((Unit × Unit) → (Option ((Bool × Unit) × Unit)))) => (loopN (d65_L2 x5) x0 ((), ((0 : Int), (x1.2.1, (x1.1, ((((List.length x1.1) : Nat) : Int), ()))))))))))))))
theorem k65 : c_fn Tryd.prog [] Tryd.f65 s65 h65 = some d65 := by kernel_rfl
/-- slices.Equal[[]bulkhead/api.Buffer,bulkhead/api.Buffer] -/
def s66 : Sig := ⟨[((.sl 98 (.pair (.int .i64) (.pair (.int .i64) .unit))), .val), ((.sl 98 (.pair (.int .i64) (.pair (.int .i64) .unit))), .val)], [(.bool, .val)]⟩
 def h66 : Hint := (.seq .leaf
   (.seq (.seq .leaf
   (.cond none
     (.seq .leaf
     .leaf)
     .leaf))
   (.seq (.seq .leaf
   (.block ⟨[], []⟩ true
     (.loop ⟨[], [((13, 0), (.val (.int .i64))), ((1, 0), (.val (.sl 98 (.pair (.int .i64) (.pair (.int .i64) .unit))))), ((0, 0), (.val (.sl 98 (.pair (.int .i64) (.pair (.int .i64) .unit))))), ((12, 0), (.val (.int .i64)))]⟩
       (.seq .leaf
       (.seq (.cond none
         .leaf
         .leaf)
       (.seq (.block ⟨[], [((1, 0), (.val (.sl 98 (.pair (.int .i64) (.pair (.int .i64) .unit))))), ((0, 0), (.val (.sl 98 (.pair (.int .i64) (.pair (.int .i64) .unit))))), ((12, 0), (.val (.int .i64))), ((13, 0), (.val (.int .i64)))]⟩ true
         (.seq .leaf
         (.seq .leaf
         (.cond none
           (.seq .leaf
           .leaf)
           .leaf))))
       .leaf))))))
   (.seq .leaf
   .leaf))))
def d66_K1 (x6 : ((Unit × (Int × ((List (Int × (Int × Unit))) × ((List (Int × (Int × Unit))) × (Int × Unit))))) → (Option ((Bool × Unit) × Unit)))) : ((Unit × ((List (Int × (Int × Unit))) × ((List (Int × (Int × Unit))) × (Int × (Int × Unit))))) → (Option ((Bool × Unit) × Unit))) :=
  (fun (x9 : (Unit × ((List (Int × (Int × Unit))) × ((List (Int × (Int × Unit))) × (Int × (Int × Unit)))))) => (x6 ((), ((Go.IntKind.wrap Go.IntKind.i64 (x9.2.2.2.2.1 + (1 : Int))), (x9.2.1, (x9.2.2.1, (x9.2.2.2.1, ())))))))
def d66_L2 (x5 : ((Unit × Unit) → (Option ((Bool × Unit) × Unit)))) : (((Unit × (Int × ((List (Int × (Int × Unit))) × ((List (Int × (Int × Unit))) × (Int × Unit))))) → (Option ((Bool × Unit) × Unit))) → ((Unit × (Int × ((List (Int × (Int × Unit))) × ((List (Int × (Int × Unit))) × (Int × Unit))))) → (Option ((Bool × Unit) × Unit)))) :=
  (fun (x6 : ((Unit × (Int × ((List (Int × (Int × Unit))) × ((List (Int × (Int × Unit))) × (Int × Unit))))) → (Option ((Bool × Unit) × Unit)))) => (fun (x7 : (Unit × (Int × ((List (Int × (Int × Unit))) × ((List (Int × (Int × Unit))) × (Int × Unit)))))) => (lt (Decidable.decide (x7.2.1 < x7.2.2.2.2.1)) fun (x8 : Bool) =>
  (if (x8 = Bool.true) then
  (shr (d66_K1 x6) (fun (x9 : ((Unit × ((List (Int × (Int × Unit))) × ((List (Int × (Int × Unit))) × (Int × (Int × Unit))))) → (Option ((Bool × Unit) × Unit)))) => (if (((Decidable.decide ((0 : Int) ≤ x7.2.1)) && (Decidable.decide (x7.2.1 < (((List.length x7.2.2.2.1) : Nat) : Int)))) = Bool.true) then
  (lt (List.getD x7.2.2.2.1 (Int.toNat x7.2.1) ((0 : Int), ((0 : Int), ()))) fun (x10 : (Int × (Int × Unit))) =>
  (if (((Decidable.decide ((0 : Int) ≤ x7.2.1)) && (Decidable.decide (x7.2.1 < (((List.length x7.2.2.1) : Nat) : Int)))) = Bool.true) then
  (lt (List.getD x7.2.2.1 (Int.toNat x7.2.1) ((0 : Int), ((0 : Int), ()))) fun (x11 : (Int × (Int × Unit))) =>
  (lt (Bool.not ((x10.1 == x11.1) && ((x10.2.1 == x11.2.1) && Bool.true))) fun (x12 : Bool) =>
  (if (x12 = Bool.true) then
  (Option.some ((Bool.false, ()), ()))
  else (x9 ((), (x7.2.2.1, (x7.2.2.2.1, (x7.2.2.2.2.1, (x7.2.1, ())))))))))
  else (Option.none)))
  else (Option.none))))
  else (x5 ((), ()))))))
def d66 : (Nat → (((List (Int × (Int × Unit))) × ((List (Int × (Int × Unit))) × Unit)) → (Option ((Bool × Unit) × Unit)))) :=
  (fun (x0 : Nat) => (fun (x1 : ((List (Int × (Int × Unit))) × ((List (Int × (Int × Unit))) × Unit))) => (lt (((List.length x1.1) : Nat) : Int) fun (x2 : Int) =>
  (lt (((List.length x1.2.1) : Nat) : Int) fun (x3 : Int) =>
  (lt (x2 != x3) fun (x4 : Bool) =>
  (if (x4 = Bool.true) then
  (Option.some ((Bool.false, ()), ()))
  else (shr (fun (x5 : (Unit × Unit)) => (Option.some ((Bool.true, ()), ()))) (fun (x5 : ((Unit × Unit) → (Option ((Bool × Unit) × Unit)))) => (loopN (d66_L2 x5) x0 ((), ((0 : Int), (x1.2.1, (x1.1, ((((List.length x1.1) : Nat) : Int), ()))))))))))))))
theorem k66 : c_fn Tryd.prog [] Tryd.f66 s66 h66 = some d66 := by kernel_rfl
/-- bulkhead/flow.alikePart -/
def s49 : Sig := ⟨[((.pair (.pair (.int .i64) (.pair (.int .i64) (.pair (.int .i64) (.pair (.int .i64) .unit)))) (.pair (.int .i64) (.pair (.int .i64) (.pair (.sl 2 (.int .i64)) (.pair (.sl 57 (.pair (.int .u8) (.pair (.int .u8) (.pair (.int .u8) (.pair (.int .u8) (.pair (.int .i32) .unit)))))) (.pair (.sl 94 (.pair (.int .i64) (.pair (.int .i64) (.pair (.int .i64) (.pair (.int .i64) (.pair (.int .i64) (.pair .bool .unit))))))) (.pair (.int .i64) (.pair (.arr 8 (.int .i64)) (.pair (.sl 96 (.pair (.int .i64) (.pair (.int .i64) .unit))) (.pair (.sl 4 .bool) (.pair (.sl 98 (.pair (.int .i64) (.pair (.int .i64) .unit))) .unit))))))))))), .val), ((.pair (.pair (.int .i64) (.pair (.int .i64) (.pair (.int .i64) (.pair (.int .i64) .unit)))) (.pair (.int .i64) (.pair (.int .i64) (.pair (.sl 2 (.int .i64)) (.pair (.sl 57 (.pair (.int .u8) (.pair (.int .u8) (.pair (.int .u8) (.pair (.int .u8) (.pair (.int .i32) .unit)))))) (.pair (.sl 94 (.pair (.int .i64) (.pair (.int .i64) (.pair (.int .i64) (.pair (.int .i64) (.pair (.int .i64) (.pair .bool .unit))))))) (.pair (.int .i64) (.pair (.arr 8 (.int .i64)) (.pair (.sl 96 (.pair (.int .i64) (.pair (.int .i64) .unit))) (.pair (.sl 4 .bool) (.pair (.sl 98 (.pair (.int .i64) (.pair (.int .i64) .unit))) .unit))))))))))), .val)], [(.bool, .val)]⟩
 def h49 : Hint := (.seq .leaf
   (.seq .leaf
   (.seq .leaf
   (.seq .leaf
   .leaf))))
def d49 : (Nat → ((PA × (PA × Unit)) → (Option ((Bool × Unit) × Unit)))) :=
  (fun (x0 : Nat) => (fun (x1 : (PA × (PA × Unit))) => (lt (x1.1.2.1 == x1.2.1.2.1) fun (x2 : Bool) =>
  (lt (x1.1.2.2.1 == x1.2.1.2.2.1) fun (x3 : Bool) =>
  (lt (if (x2 = Bool.true) then
  x3
  else Bool.false) fun (x4 : Bool) =>
  (lt (x1.1.2.2.2.2.2.2.1 == x1.2.1.2.2.2.2.2.2.1) fun (x5 : Bool) =>
  (lt (if (x4 = Bool.true) then
  x5
  else Bool.false) fun (x6 : Bool) =>
  (lt (Go.Lift.allEq (fun (x7 : Int) => (fun (x8 : Int) => (x7 == x8))) x1.1.2.2.2.2.2.2.2.1 x1.2.1.2.2.2.2.2.2.2.1) fun (x7 : Bool) =>
  (lt (if (x6 = Bool.true) then
  x7
  else Bool.false) fun (x8 : Bool) =>
  (lt ((x1.1.1.1 == x1.2.1.1.1) && ((x1.1.1.2.1 == x1.2.1.1.2.1) && ((x1.1.1.2.2.1 == x1.2.1.1.2.2.1) && ((x1.1.1.2.2.2.1 == x1.2.1.1.2.2.2.1) && Bool.true)))) fun (x9 : Bool) =>
  (lt (if (x8 = Bool.true) then
  x9
  else Bool.false) fun (x10 : Bool) =>
  (Option.bind (d61 x0 (x1.1.2.2.2.1, (x1.2.1.2.2.2.1, ()))) fun (x11 : ((Bool × Unit) × Unit)) =>
  (Option.bind (if (((x11.1.1 == Bool.true) && Bool.true) = Bool.true) then
  (d62 x0 (x1.1.2.2.2.2.1, (x1.2.1.2.2.2.2.1, ())))
  else (Option.some ((Bool.false, ()), ()))) fun (x12 : ((Bool × Unit) × Unit)) =>
  (lt (if (x11.1.1 = Bool.true) then
  x12.1.1
  else Bool.false) fun (x13 : Bool) =>
  (Option.bind (if (((x13 == Bool.true) && Bool.true) = Bool.true) then
  (d63 x0 (x1.1.2.2.2.2.2.1, (x1.2.1.2.2.2.2.2.1, ())))
  else (Option.some ((Bool.false, ()), ()))) fun (x14 : ((Bool × Unit) × Unit)) =>
  (lt (if (x13 = Bool.true) then
  x14.1.1
  else Bool.false) fun (x15 : Bool) =>
  (lt (if (x10 = Bool.true) then
  x15
  else Bool.false) fun (x16 : Bool) =>
  (Option.bind (if (((x16 == Bool.true) && Bool.true) = Bool.true) then
  (d64 x0 (x1.1.2.2.2.2.2.2.2.2.1, (x1.2.1.2.2.2.2.2.2.2.2.1, ())))
  else (Option.some ((Bool.false, ()), ()))) fun (x17 : ((Bool × Unit) × Unit)) =>
  (lt (if (x16 = Bool.true) then
  x17.1.1
  else Bool.false) fun (x18 : Bool) =>
  (Option.bind (if (((x18 == Bool.true) && Bool.true) = Bool.true) then
  (d65 x0 (x1.1.2.2.2.2.2.2.2.2.2.1, (x1.2.1.2.2.2.2.2.2.2.2.2.1, ())))
  else (Option.some ((Bool.false, ()), ()))) fun (x19 : ((Bool × Unit) × Unit)) =>
  (lt (if (x18 = Bool.true) then
  x19.1.1
  else Bool.false) fun (x20 : Bool) =>
  (Option.bind (if (((x20 == Bool.true) && Bool.true) = Bool.true) then
  (d66 x0 (x1.1.2.2.2.2.2.2.2.2.2.2.1, (x1.2.1.2.2.2.2.2.2.2.2.2.2.1, ())))
  else (Option.some ((Bool.false, ()), ()))) fun (x21 : ((Bool × Unit) × Unit)) =>
  (Option.some (((if (x20 = Bool.true) then
  x21.1.1
  else Bool.false), ()), ()))))))))))))))))))))))))
theorem k49 : c_fn Tryd.prog [(61, ⟨s61, d61⟩), (62, ⟨s62, d62⟩), (63, ⟨s63, d63⟩), (64, ⟨s64, d64⟩), (65, ⟨s65, d65⟩), (66, ⟨s66, d66⟩)] Tryd.f49 s49 h49 = some d49 := by kernel_rfl
/-- bulkhead/flow.Alike -/
def s25 : Sig := ⟨[((.pair (.sl 55 (.pair (.pair (.int .i64) (.pair (.int .i64) (.pair (.int .i64) (.pair (.int .i64) .unit)))) (.pair (.int .i64) (.pair (.int .i64) (.pair (.sl 2 (.int .i64)) (.pair (.sl 57 (.pair (.int .u8) (.pair (.int .u8) (.pair (.int .u8) (.pair (.int .u8) (.pair (.int .i32) .unit)))))) (.pair (.sl 94 (.pair (.int .i64) (.pair (.int .i64) (.pair (.int .i64) (.pair (.int .i64) (.pair (.int .i64) (.pair .bool .unit))))))) (.pair (.int .i64) (.pair (.arr 8 (.int .i64)) (.pair (.sl 96 (.pair (.int .i64) (.pair (.int .i64) .unit))) (.pair (.sl 4 .bool) (.pair (.sl 98 (.pair (.int .i64) (.pair (.int .i64) .unit))) .unit)))))))))))) (.pair (.sl 65 (.pair (.int .i64) (.pair (.int .i64) (.pair .bool (.pair (.int .i64) (.pair (.int .i64) (.pair (.int .i64) .unit))))))) (.pair (.sl 62 (.pair (.int .i64) (.pair (.int .i64) (.pair (.sl 3 (.int .i64)) (.pair (.int .i64) (.pair (.int .i64) .unit)))))) .unit))), .val), ((.pair (.sl 55 (.pair (.pair (.int .i64) (.pair (.int .i64) (.pair (.int .i64) (.pair (.int .i64) .unit)))) (.pair (.int .i64) (.pair (.int .i64) (.pair (.sl 2 (.int .i64)) (.pair (.sl 57 (.pair (.int .u8) (.pair (.int .u8) (.pair (.int .u8) (.pair (.int .u8) (.pair (.int .i32) .unit)))))) (.pair (.sl 94 (.pair (.int .i64) (.pair (.int .i64) (.pair (.int .i64) (.pair (.int .i64) (.pair (.int .i64) (.pair .bool .unit))))))) (.pair (.int .i64) (.pair (.arr 8 (.int .i64)) (.pair (.sl 96 (.pair (.int .i64) (.pair (.int .i64) .unit))) (.pair (.sl 4 .bool) (.pair (.sl 98 (.pair (.int .i64) (.pair (.int .i64) .unit))) .unit)))))))))))) (.pair (.sl 65 (.pair (.int .i64) (.pair (.int .i64) (.pair .bool (.pair (.int .i64) (.pair (.int .i64) (.pair (.int .i64) .unit))))))) (.pair (.sl 62 (.pair (.int .i64) (.pair (.int .i64) (.pair (.sl 3 (.int .i64)) (.pair (.int .i64) (.pair (.int .i64) .unit)))))) .unit))), .val), ((.int .i64), .val)], [(.bool, .val), ((.int .i64), .val)]⟩
 def h25 : Hint := (.seq .leaf
   (.seq .leaf
   (.seq (.seq .leaf
   (.cond none
     (.seq .leaf
     .leaf)
     .leaf))
   (.seq .leaf
   (.seq .leaf
   (.seq (.seq .leaf
   (.cond none
     (.seq .leaf
     .leaf)
     .leaf))
   (.seq (.seq .leaf
   (.block ⟨[], []⟩ true
     (.loop ⟨[((.ptr 26 (.pair (.sl 55 (.pair (.pair (.int .i64) (.pair (.int .i64) (.pair (.int .i64) (.pair (.int .i64) .unit)))) (.pair (.int .i64) (.pair (.int .i64) (.pair (.sl 2 (.int .i64)) (.pair (.sl 57 (.pair (.int .u8) (.pair (.int .u8) (.pair (.int .u8) (.pair (.int .u8) (.pair (.int .i32) .unit)))))) (.pair (.sl 94 (.pair (.int .i64) (.pair (.int .i64) (.pair (.int .i64) (.pair (.int .i64) (.pair (.int .i64) (.pair .bool .unit))))))) (.pair (.int .i64) (.pair (.arr 8 (.int .i64)) (.pair (.sl 96 (.pair (.int .i64) (.pair (.int .i64) .unit))) (.pair (.sl 4 .bool) (.pair (.sl 98 (.pair (.int .i64) (.pair (.int .i64) .unit))) .unit)))))))))))) (.pair (.sl 65 (.pair (.int .i64) (.pair (.int .i64) (.pair .bool (.pair (.int .i64) (.pair (.int .i64) (.pair (.int .i64) .unit))))))) (.pair (.sl 62 (.pair (.int .i64) (.pair (.int .i64) (.pair (.sl 3 (.int .i64)) (.pair (.int .i64) (.pair (.int .i64) .unit)))))) .unit)))), (.ow .sh), (4, 0)), ((.ptr 26 (.pair (.sl 55 (.pair (.pair (.int .i64) (.pair (.int .i64) (.pair (.int .i64) (.pair (.int .i64) .unit)))) (.pair (.int .i64) (.pair (.int .i64) (.pair (.sl 2 (.int .i64)) (.pair (.sl 57 (.pair (.int .u8) (.pair (.int .u8) (.pair (.int .u8) (.pair (.int .u8) (.pair (.int .i32) .unit)))))) (.pair (.sl 94 (.pair (.int .i64) (.pair (.int .i64) (.pair (.int .i64) (.pair (.int .i64) (.pair (.int .i64) (.pair .bool .unit))))))) (.pair (.int .i64) (.pair (.arr 8 (.int .i64)) (.pair (.sl 96 (.pair (.int .i64) (.pair (.int .i64) .unit))) (.pair (.sl 4 .bool) (.pair (.sl 98 (.pair (.int .i64) (.pair (.int .i64) .unit))) .unit)))))))))))) (.pair (.sl 65 (.pair (.int .i64) (.pair (.int .i64) (.pair .bool (.pair (.int .i64) (.pair (.int .i64) (.pair (.int .i64) .unit))))))) (.pair (.sl 62 (.pair (.int .i64) (.pair (.int .i64) (.pair (.sl 3 (.int .i64)) (.pair (.int .i64) (.pair (.int .i64) .unit)))))) .unit)))), (.ow .sh), (3, 0)), ((.sl 3 (.int .i64)), (.ow .sh), (47, 0))], [((49, 0), (.val (.int .i64))), ((4, 0), (.own 0)), ((3, 0), (.own 1)), ((47, 0), (.own 2)), ((48, 0), (.val (.int .i64)))]⟩
       (.seq .leaf
       (.seq (.cond none
         .leaf
         .leaf)
       (.seq (.block ⟨[((.ptr 26 (.pair (.sl 55 (.pair (.pair (.int .i64) (.pair (.int .i64) (.pair (.int .i64) (.pair (.int .i64) .unit)))) (.pair (.int .i64) (.pair (.int .i64) (.pair (.sl 2 (.int .i64)) (.pair (.sl 57 (.pair (.int .u8) (.pair (.int .u8) (.pair (.int .u8) (.pair (.int .u8) (.pair (.int .i32) .unit)))))) (.pair (.sl 94 (.pair (.int .i64) (.pair (.int .i64) (.pair (.int .i64) (.pair (.int .i64) (.pair (.int .i64) (.pair .bool .unit))))))) (.pair (.int .i64) (.pair (.arr 8 (.int .i64)) (.pair (.sl 96 (.pair (.int .i64) (.pair (.int .i64) .unit))) (.pair (.sl 4 .bool) (.pair (.sl 98 (.pair (.int .i64) (.pair (.int .i64) .unit))) .unit)))))))))))) (.pair (.sl 65 (.pair (.int .i64) (.pair (.int .i64) (.pair .bool (.pair (.int .i64) (.pair (.int .i64) (.pair (.int .i64) .unit))))))) (.pair (.sl 62 (.pair (.int .i64) (.pair (.int .i64) (.pair (.sl 3 (.int .i64)) (.pair (.int .i64) (.pair (.int .i64) .unit)))))) .unit)))), (.ow .sh), (4, 0)), ((.ptr 26 (.pair (.sl 55 (.pair (.pair (.int .i64) (.pair (.int .i64) (.pair (.int .i64) (.pair (.int .i64) .unit)))) (.pair (.int .i64) (.pair (.int .i64) (.pair (.sl 2 (.int .i64)) (.pair (.sl 57 (.pair (.int .u8) (.pair (.int .u8) (.pair (.int .u8) (.pair (.int .u8) (.pair (.int .i32) .unit)))))) (.pair (.sl 94 (.pair (.int .i64) (.pair (.int .i64) (.pair (.int .i64) (.pair (.int .i64) (.pair (.int .i64) (.pair .bool .unit))))))) (.pair (.int .i64) (.pair (.arr 8 (.int .i64)) (.pair (.sl 96 (.pair (.int .i64) (.pair (.int .i64) .unit))) (.pair (.sl 4 .bool) (.pair (.sl 98 (.pair (.int .i64) (.pair (.int .i64) .unit))) .unit)))))))))))) (.pair (.sl 65 (.pair (.int .i64) (.pair (.int .i64) (.pair .bool (.pair (.int .i64) (.pair (.int .i64) (.pair (.int .i64) .unit))))))) (.pair (.sl 62 (.pair (.int .i64) (.pair (.int .i64) (.pair (.sl 3 (.int .i64)) (.pair (.int .i64) (.pair (.int .i64) .unit)))))) .unit)))), (.ow .sh), (3, 0)), ((.sl 3 (.int .i64)), (.ow .sh), (47, 0))], [((4, 0), (.own 0)), ((3, 0), (.own 1)), ((47, 0), (.own 2)), ((48, 0), (.val (.int .i64))), ((49, 0), (.val (.int .i64)))]⟩ true
         (.seq .leaf
         (.seq .leaf
         (.cond none
           (.seq .leaf
           .leaf)
           .leaf))))
       .leaf))))))
   (.seq .leaf
   .leaf))))))))
def d25_K1  : ((Unit × Unit) → (Option ((Bool × (Int × Unit)) × Unit))) :=
  (fun (x12 : (Unit × Unit)) => (Option.some ((Bool.true, ((0 : Int), ())), ())))
def d25_K2 (x13 : (((IM × (IM × ((List Int) × Unit))) × (Int × (Int × Unit))) → (Option ((Bool × (Int × Unit)) × Unit)))) : (((IM × (IM × ((List Int) × Unit))) × (Int × (Int × Unit))) → (Option ((Bool × (Int × Unit)) × Unit))) :=
  (fun (x16 : ((IM × (IM × ((List Int) × Unit))) × (Int × (Int × Unit)))) => (x13 ((x16.1.1, (x16.1.2.1, (x16.1.2.2.1, ()))), ((Go.IntKind.wrap Go.IntKind.i64 (x16.2.2.1 + (1 : Int))), (x16.2.1, ())))))
def d25_L3 (x0 : Nat) (x12 : ((Unit × Unit) → (Option ((Bool × (Int × Unit)) × Unit)))) : ((((IM × (IM × ((List Int) × Unit))) × (Int × (Int × Unit))) → (Option ((Bool × (Int × Unit)) × Unit))) → (((IM × (IM × ((List Int) × Unit))) × (Int × (Int × Unit))) → (Option ((Bool × (Int × Unit)) × Unit)))) :=
  (fun (x13 : (((IM × (IM × ((List Int) × Unit))) × (Int × (Int × Unit))) → (Option ((Bool × (Int × Unit)) × Unit)))) => (fun (x14 : ((IM × (IM × ((List Int) × Unit))) × (Int × (Int × Unit)))) => (lt (Decidable.decide (x14.2.1 < x14.2.2.1)) fun (x15 : Bool) =>
  (if (x15 = Bool.true) then
  (shr (d25_K2 x13) (fun (x16 : (((IM × (IM × ((List Int) × Unit))) × (Int × (Int × Unit))) → (Option ((Bool × (Int × Unit)) × Unit)))) => (if (((Decidable.decide ((0 : Int) ≤ x14.2.1)) && (Decidable.decide (x14.2.1 < (((List.length x14.1.2.2.1) : Nat) : Int)))) = Bool.true) then
  (if (((Decidable.decide ((Int.toNat x14.2.1) < (List.length x14.1.2.2.1))) && Bool.true) = Bool.true) then
  (lt (List.getD x14.1.2.2.1 (Int.toNat x14.2.1) (0 : Int)) fun (x17 : Int) =>
  (lt (Go.IntKind.wrap Go.IntKind.i64 (x17 - (1 : Int))) fun (x18 : Int) =>
  (if (((Decidable.decide ((0 : Int) ≤ x18)) && (Decidable.decide (x18 < (((List.length x14.1.2.1.1) : Nat) : Int)))) = Bool.true) then
  (lt (List.getD x14.1.2.1.1 (Int.toNat x18) (((0 : Int), ((0 : Int), ((0 : Int), ((0 : Int), ())))), ((0 : Int), ((0 : Int), (([] : List Int), (([] : List (Int × (Int × (Int × (Int × (Int × Unit)))))), (([] : List (Int × (Int × (Int × (Int × (Int × (Bool × Unit))))))), ((0 : Int), ((List.replicate (8 : Nat) (0 : Int)), (([] : List (Int × (Int × Unit))), (([] : List Bool), (([] : List (Int × (Int × Unit))), ())))))))))))) fun (x19 : PA) =>
  (lt (Go.IntKind.wrap Go.IntKind.i64 (x17 - (1 : Int))) fun (x20 : Int) =>
  (if (((Decidable.decide ((0 : Int) ≤ x20)) && (Decidable.decide (x20 < (((List.length x14.1.1.1) : Nat) : Int)))) = Bool.true) then
  (lt (List.getD x14.1.1.1 (Int.toNat x20) (((0 : Int), ((0 : Int), ((0 : Int), ((0 : Int), ())))), ((0 : Int), ((0 : Int), (([] : List Int), (([] : List (Int × (Int × (Int × (Int × (Int × Unit)))))), (([] : List (Int × (Int × (Int × (Int × (Int × (Bool × Unit))))))), ((0 : Int), ((List.replicate (8 : Nat) (0 : Int)), (([] : List (Int × (Int × Unit))), (([] : List Bool), (([] : List (Int × (Int × Unit))), ())))))))))))) fun (x21 : PA) =>
  (Option.bind (d49 x0 (x19, (x21, ()))) fun (x22 : ((Bool × Unit) × Unit)) =>
  (lt (Bool.not x22.1.1) fun (x23 : Bool) =>
  (if (x23 = Bool.true) then
  (Option.some ((Bool.false, ((0 : Int), ())), ()))
  else (x16 ((x14.1.1, (x14.1.2.1, (x14.1.2.2.1, ()))), (x14.2.2.1, (x14.2.1, ()))))))))
  else (Option.none))))
  else (Option.none))))
  else (Option.none))
  else (Option.none))))
  else (x12 ((), ()))))))
def d25 : (Nat → ((IM × (IM × (Int × Unit))) → (Option ((Bool × (Int × Unit)) × Unit)))) :=
  (fun (x0 : Nat) => (fun (x1 : (IM × (IM × (Int × Unit)))) => (Option.bind (d12 x0 (x1.1, (x1.2.2.1, ()))) fun (x2 : (((List Int) × (Int × Unit)) × Unit)) =>
  (lt (x2.1.2.1 != (0 : Int)) fun (x3 : Bool) =>
  (if (x3 = Bool.true) then
  (Option.some ((Bool.false, (x2.1.2.1, ())), ()))
  else (Option.bind (d43 x0 (x1.1.1, (x1.2.1.1, ((), ())))) fun (x4 : ((Bool × Unit) × Unit)) =>
  (Option.bind (d45 x0 (x1.1.2.2.1, (x1.2.1.2.2.1, ((), ())))) fun (x5 : ((Bool × Unit) × Unit)) =>
  (lt (Bool.not x4.1.1) fun (x6 : Bool) =>
  (lt (Bool.not x5.1.1) fun (x7 : Bool) =>
  (lt (if (x6 = Bool.true) then
  Bool.true
  else x7) fun (x8 : Bool) =>
  (Option.bind (if (((x8 == Bool.false) && Bool.true) = Bool.true) then
  (d48 x0 (x1.1.2.1, (x1.2.1.2.1, ())))
  else (Option.some ((Bool.false, ()), ()))) fun (x9 : ((Bool × Unit) × Unit)) =>
  (lt (Bool.not x9.1.1) fun (x10 : Bool) =>
  (lt (if (x8 = Bool.true) then
  Bool.true
  else x10) fun (x11 : Bool) =>
  (if (x11 = Bool.true) then
  (Option.some ((Bool.false, ((0 : Int), ())), ()))
  else (shr d25_K1 (fun (x12 : ((Unit × Unit) → (Option ((Bool × (Int × Unit)) × Unit)))) => (loopN (d25_L3 x0 x12) x0 ((x1.2.1, (x1.1, (x2.1.1, ()))), ((0 : Int), ((((List.length x2.1.1) : Nat) : Int), ()))))))))))))))))))))
theorem k25 : c_fn Tryd.prog [(12, ⟨s12, d12⟩), (43, ⟨s43, d43⟩), (44, ⟨s44, d44⟩), (45, ⟨s45, d45⟩), (46, ⟨s46, d46⟩), (48, ⟨s48, d48⟩), (49, ⟨s49, d49⟩)] Tryd.f25 s25 h25 = some d25 := by kernel_rfl
/-- bulkhead/bulkheadlaw24.FlowOthers -/
def s5 : Sig := ⟨[((.pair (.sl 55 (.pair (.pair (.int .i64) (.pair (.int .i64) (.pair (.int .i64) (.pair (.int .i64) .unit)))) (.pair (.int .i64) (.pair (.int .i64) (.pair (.sl 2 (.int .i64)) (.pair (.sl 57 (.pair (.int .u8) (.pair (.int .u8) (.pair (.int .u8) (.pair (.int .u8) (.pair (.int .i32) .unit)))))) (.pair (.sl 94 (.pair (.int .i64) (.pair (.int .i64) (.pair (.int .i64) (.pair (.int .i64) (.pair (.int .i64) (.pair .bool .unit))))))) (.pair (.int .i64) (.pair (.arr 8 (.int .i64)) (.pair (.sl 96 (.pair (.int .i64) (.pair (.int .i64) .unit))) (.pair (.sl 4 .bool) (.pair (.sl 98 (.pair (.int .i64) (.pair (.int .i64) .unit))) .unit)))))))))))) (.pair (.sl 65 (.pair (.int .i64) (.pair (.int .i64) (.pair .bool (.pair (.int .i64) (.pair (.int .i64) (.pair (.int .i64) .unit))))))) (.pair (.sl 62 (.pair (.int .i64) (.pair (.int .i64) (.pair (.sl 3 (.int .i64)) (.pair (.int .i64) (.pair (.int .i64) .unit)))))) .unit))), .val), ((.int .i64), .val), ((.int .i64), .val), ((.pair (.pair (.int .i64) (.pair (.int .i64) (.pair (.int .i64) (.pair (.int .i64) .unit)))) (.pair (.int .i64) (.pair (.int .i64) (.pair (.sl 2 (.int .i64)) (.pair (.sl 57 (.pair (.int .u8) (.pair (.int .u8) (.pair (.int .u8) (.pair (.int .u8) (.pair (.int .i32) .unit)))))) (.pair (.sl 94 (.pair (.int .i64) (.pair (.int .i64) (.pair (.int .i64) (.pair (.int .i64) (.pair (.int .i64) (.pair .bool .unit))))))) (.pair (.int .i64) (.pair (.arr 8 (.int .i64)) (.pair (.sl 96 (.pair (.int .i64) (.pair (.int .i64) .unit))) (.pair (.sl 4 .bool) (.pair (.sl 98 (.pair (.int .i64) (.pair (.int .i64) .unit))) .unit))))))))))), .val)], [(.bool, .val)]⟩
 def h5 : Hint := (.seq .leaf
   (.seq .leaf
   (.seq .leaf
   (.seq (.seq .leaf
   (.cond none
     (.seq .leaf
     .leaf)
     .leaf))
   (.seq .leaf
   (.seq .leaf
   (.seq (.seq .leaf
   (.block ⟨[((.ptr 26 (.pair (.sl 55 (.pair (.pair (.int .i64) (.pair (.int .i64) (.pair (.int .i64) (.pair (.int .i64) .unit)))) (.pair (.int .i64) (.pair (.int .i64) (.pair (.sl 2 (.int .i64)) (.pair (.sl 57 (.pair (.int .u8) (.pair (.int .u8) (.pair (.int .u8) (.pair (.int .u8) (.pair (.int .i32) .unit)))))) (.pair (.sl 94 (.pair (.int .i64) (.pair (.int .i64) (.pair (.int .i64) (.pair (.int .i64) (.pair (.int .i64) (.pair .bool .unit))))))) (.pair (.int .i64) (.pair (.arr 8 (.int .i64)) (.pair (.sl 96 (.pair (.int .i64) (.pair (.int .i64) .unit))) (.pair (.sl 4 .bool) (.pair (.sl 98 (.pair (.int .i64) (.pair (.int .i64) .unit))) .unit)))))))))))) (.pair (.sl 65 (.pair (.int .i64) (.pair (.int .i64) (.pair .bool (.pair (.int .i64) (.pair (.int .i64) (.pair (.int .i64) .unit))))))) (.pair (.sl 62 (.pair (.int .i64) (.pair (.int .i64) (.pair (.sl 3 (.int .i64)) (.pair (.int .i64) (.pair (.int .i64) .unit)))))) .unit)))), (.ow (.pr .sh (.pr .sh (.pr (.ow .sh) .sh)))), (9, 0)), ((.ptr 55 (.pair (.pair (.int .i64) (.pair (.int .i64) (.pair (.int .i64) (.pair (.int .i64) .unit)))) (.pair (.int .i64) (.pair (.int .i64) (.pair (.sl 2 (.int .i64)) (.pair (.sl 57 (.pair (.int .u8) (.pair (.int .u8) (.pair (.int .u8) (.pair (.int .u8) (.pair (.int .i32) .unit)))))) (.pair (.sl 94 (.pair (.int .i64) (.pair (.int .i64) (.pair (.int .i64) (.pair (.int .i64) (.pair (.int .i64) (.pair .bool .unit))))))) (.pair (.int .i64) (.pair (.arr 8 (.int .i64)) (.pair (.sl 96 (.pair (.int .i64) (.pair (.int .i64) .unit))) (.pair (.sl 4 .bool) (.pair (.sl 98 (.pair (.int .i64) (.pair (.int .i64) .unit))) .unit)))))))))))), (.ow .sh), (7, 0))], [((13, 0), (.val .bool)), ((12, 0), (.val (.int .i64))), ((1, 0), (.val (.int .i64))), ((9, 0), (.own 0)), ((2, 0), (.val (.int .i64))), ((7, 0), (.own 1))]⟩ true
     (.loop ⟨[((.sl 3 (.int .i64)), (.ow .sh), (11, 0)), ((.ptr 26 (.pair (.sl 55 (.pair (.pair (.int .i64) (.pair (.int .i64) (.pair (.int .i64) (.pair (.int .i64) .unit)))) (.pair (.int .i64) (.pair (.int .i64) (.pair (.sl 2 (.int .i64)) (.pair (.sl 57 (.pair (.int .u8) (.pair (.int .u8) (.pair (.int .u8) (.pair (.int .u8) (.pair (.int .i32) .unit)))))) (.pair (.sl 94 (.pair (.int .i64) (.pair (.int .i64) (.pair (.int .i64) (.pair (.int .i64) (.pair (.int .i64) (.pair .bool .unit))))))) (.pair (.int .i64) (.pair (.arr 8 (.int .i64)) (.pair (.sl 96 (.pair (.int .i64) (.pair (.int .i64) .unit))) (.pair (.sl 4 .bool) (.pair (.sl 98 (.pair (.int .i64) (.pair (.int .i64) .unit))) .unit)))))))))))) (.pair (.sl 65 (.pair (.int .i64) (.pair (.int .i64) (.pair .bool (.pair (.int .i64) (.pair (.int .i64) (.pair (.int .i64) .unit))))))) (.pair (.sl 62 (.pair (.int .i64) (.pair (.int .i64) (.pair (.sl 3 (.int .i64)) (.pair (.int .i64) (.pair (.int .i64) .unit)))))) .unit)))), (.ow (.pr .sh (.pr .sh (.pr (.ow .sh) .sh)))), (9, 0)), ((.ptr 55 (.pair (.pair (.int .i64) (.pair (.int .i64) (.pair (.int .i64) (.pair (.int .i64) .unit)))) (.pair (.int .i64) (.pair (.int .i64) (.pair (.sl 2 (.int .i64)) (.pair (.sl 57 (.pair (.int .u8) (.pair (.int .u8) (.pair (.int .u8) (.pair (.int .u8) (.pair (.int .i32) .unit)))))) (.pair (.sl 94 (.pair (.int .i64) (.pair (.int .i64) (.pair (.int .i64) (.pair (.int .i64) (.pair (.int .i64) (.pair .bool .unit))))))) (.pair (.int .i64) (.pair (.arr 8 (.int .i64)) (.pair (.sl 96 (.pair (.int .i64) (.pair (.int .i64) .unit))) (.pair (.sl 4 .bool) (.pair (.sl 98 (.pair (.int .i64) (.pair (.int .i64) .unit))) .unit)))))))))))), (.ow .sh), (7, 0))], [((14, 0), (.val (.int .i64))), ((2, 0), (.val (.int .i64))), ((11, 0), (.own 0)), ((13, 0), (.val .bool)), ((12, 0), (.val (.int .i64))), ((1, 0), (.val (.int .i64))), ((9, 0), (.own 1)), ((7, 0), (.own 2))]⟩
       (.seq (.seq .leaf
       (.cond none
         .leaf
         .leaf))
       (.seq (.block ⟨[((.sl 3 (.int .i64)), (.ow .sh), (11, 0)), ((.ptr 26 (.pair (.sl 55 (.pair (.pair (.int .i64) (.pair (.int .i64) (.pair (.int .i64) (.pair (.int .i64) .unit)))) (.pair (.int .i64) (.pair (.int .i64) (.pair (.sl 2 (.int .i64)) (.pair (.sl 57 (.pair (.int .u8) (.pair (.int .u8) (.pair (.int .u8) (.pair (.int .u8) (.pair (.int .i32) .unit)))))) (.pair (.sl 94 (.pair (.int .i64) (.pair (.int .i64) (.pair (.int .i64) (.pair (.int .i64) (.pair (.int .i64) (.pair .bool .unit))))))) (.pair (.int .i64) (.pair (.arr 8 (.int .i64)) (.pair (.sl 96 (.pair (.int .i64) (.pair (.int .i64) .unit))) (.pair (.sl 4 .bool) (.pair (.sl 98 (.pair (.int .i64) (.pair (.int .i64) .unit))) .unit)))))))))))) (.pair (.sl 65 (.pair (.int .i64) (.pair (.int .i64) (.pair .bool (.pair (.int .i64) (.pair (.int .i64) (.pair (.int .i64) .unit))))))) (.pair (.sl 62 (.pair (.int .i64) (.pair (.int .i64) (.pair (.sl 3 (.int .i64)) (.pair (.int .i64) (.pair (.int .i64) .unit)))))) .unit)))), (.ow (.pr .sh (.pr .sh (.pr (.ow .sh) .sh)))), (9, 0)), ((.ptr 55 (.pair (.pair (.int .i64) (.pair (.int .i64) (.pair (.int .i64) (.pair (.int .i64) .unit)))) (.pair (.int .i64) (.pair (.int .i64) (.pair (.sl 2 (.int .i64)) (.pair (.sl 57 (.pair (.int .u8) (.pair (.int .u8) (.pair (.int .u8) (.pair (.int .u8) (.pair (.int .i32) .unit)))))) (.pair (.sl 94 (.pair (.int .i64) (.pair (.int .i64) (.pair (.int .i64) (.pair (.int .i64) (.pair (.int .i64) (.pair .bool .unit))))))) (.pair (.int .i64) (.pair (.arr 8 (.int .i64)) (.pair (.sl 96 (.pair (.int .i64) (.pair (.int .i64) .unit))) (.pair (.sl 4 .bool) (.pair (.sl 98 (.pair (.int .i64) (.pair (.int .i64) .unit))) .unit)))))))))))), (.ow .sh), (7, 0))], [((2, 0), (.val (.int .i64))), ((11, 0), (.own 0)), ((13, 0), (.val .bool)), ((12, 0), (.val (.int .i64))), ((1, 0), (.val (.int .i64))), ((9, 0), (.own 1)), ((7, 0), (.own 2)), ((14, 0), (.val (.int .i64)))]⟩ true
         .leaf)
       .leaf)))))
   (.seq (.pre ⟨[((.ptr 26 (.pair (.sl 55 (.pair (.pair (.int .i64) (.pair (.int .i64) (.pair (.int .i64) (.pair (.int .i64) .unit)))) (.pair (.int .i64) (.pair (.int .i64) (.pair (.sl 2 (.int .i64)) (.pair (.sl 57 (.pair (.int .u8) (.pair (.int .u8) (.pair (.int .u8) (.pair (.int .u8) (.pair (.int .i32) .unit)))))) (.pair (.sl 94 (.pair (.int .i64) (.pair (.int .i64) (.pair (.int .i64) (.pair (.int .i64) (.pair (.int .i64) (.pair .bool .unit))))))) (.pair (.int .i64) (.pair (.arr 8 (.int .i64)) (.pair (.sl 96 (.pair (.int .i64) (.pair (.int .i64) .unit))) (.pair (.sl 4 .bool) (.pair (.sl 98 (.pair (.int .i64) (.pair (.int .i64) .unit))) .unit)))))))))))) (.pair (.sl 65 (.pair (.int .i64) (.pair (.int .i64) (.pair .bool (.pair (.int .i64) (.pair (.int .i64) (.pair (.int .i64) .unit))))))) (.pair (.sl 62 (.pair (.int .i64) (.pair (.int .i64) (.pair (.sl 3 (.int .i64)) (.pair (.int .i64) (.pair (.int .i64) .unit)))))) .unit)))), (.ow .sh), (9, 0)), ((.ptr 55 (.pair (.pair (.int .i64) (.pair (.int .i64) (.pair (.int .i64) (.pair (.int .i64) .unit)))) (.pair (.int .i64) (.pair (.int .i64) (.pair (.sl 2 (.int .i64)) (.pair (.sl 57 (.pair (.int .u8) (.pair (.int .u8) (.pair (.int .u8) (.pair (.int .u8) (.pair (.int .i32) .unit)))))) (.pair (.sl 94 (.pair (.int .i64) (.pair (.int .i64) (.pair (.int .i64) (.pair (.int .i64) (.pair (.int .i64) (.pair .bool .unit))))))) (.pair (.int .i64) (.pair (.arr 8 (.int .i64)) (.pair (.sl 96 (.pair (.int .i64) (.pair (.int .i64) .unit))) (.pair (.sl 4 .bool) (.pair (.sl 98 (.pair (.int .i64) (.pair (.int .i64) .unit))) .unit)))))))))))), (.ow .sh), (7, 0))], [((13, 0), (.val .bool)), ((12, 0), (.val (.int .i64))), ((1, 0), (.val (.int .i64))), ((9, 0), (.own 0)), ((2, 0), (.val (.int .i64))), ((7, 0), (.own 1))]⟩ .leaf)
   (.seq .leaf
   (.seq .leaf
   (.seq (.seq .leaf
   (.cond (some ⟨[((.ptr 26 (.pair (.sl 55 (.pair (.pair (.int .i64) (.pair (.int .i64) (.pair (.int .i64) (.pair (.int .i64) .unit)))) (.pair (.int .i64) (.pair (.int .i64) (.pair (.sl 2 (.int .i64)) (.pair (.sl 57 (.pair (.int .u8) (.pair (.int .u8) (.pair (.int .u8) (.pair (.int .u8) (.pair (.int .i32) .unit)))))) (.pair (.sl 94 (.pair (.int .i64) (.pair (.int .i64) (.pair (.int .i64) (.pair (.int .i64) (.pair (.int .i64) (.pair .bool .unit))))))) (.pair (.int .i64) (.pair (.arr 8 (.int .i64)) (.pair (.sl 96 (.pair (.int .i64) (.pair (.int .i64) .unit))) (.pair (.sl 4 .bool) (.pair (.sl 98 (.pair (.int .i64) (.pair (.int .i64) .unit))) .unit)))))))))))) (.pair (.sl 65 (.pair (.int .i64) (.pair (.int .i64) (.pair .bool (.pair (.int .i64) (.pair (.int .i64) (.pair (.int .i64) .unit))))))) (.pair (.sl 62 (.pair (.int .i64) (.pair (.int .i64) (.pair (.sl 3 (.int .i64)) (.pair (.int .i64) (.pair (.int .i64) .unit)))))) .unit)))), (.ow .sh), (9, 0)), ((.ptr 26 (.pair (.sl 55 (.pair (.pair (.int .i64) (.pair (.int .i64) (.pair (.int .i64) (.pair (.int .i64) .unit)))) (.pair (.int .i64) (.pair (.int .i64) (.pair (.sl 2 (.int .i64)) (.pair (.sl 57 (.pair (.int .u8) (.pair (.int .u8) (.pair (.int .u8) (.pair (.int .u8) (.pair (.int .i32) .unit)))))) (.pair (.sl 94 (.pair (.int .i64) (.pair (.int .i64) (.pair (.int .i64) (.pair (.int .i64) (.pair (.int .i64) (.pair .bool .unit))))))) (.pair (.int .i64) (.pair (.arr 8 (.int .i64)) (.pair (.sl 96 (.pair (.int .i64) (.pair (.int .i64) .unit))) (.pair (.sl 4 .bool) (.pair (.sl 98 (.pair (.int .i64) (.pair (.int .i64) .unit))) .unit)))))))))))) (.pair (.sl 65 (.pair (.int .i64) (.pair (.int .i64) (.pair .bool (.pair (.int .i64) (.pair (.int .i64) (.pair (.int .i64) .unit))))))) (.pair (.sl 62 (.pair (.int .i64) (.pair (.int .i64) (.pair (.sl 3 (.int .i64)) (.pair (.int .i64) (.pair (.int .i64) .unit)))))) .unit)))), (.ow .sh), (15, 0)), ((.sl 55 (.pair (.pair (.int .i64) (.pair (.int .i64) (.pair (.int .i64) (.pair (.int .i64) .unit)))) (.pair (.int .i64) (.pair (.int .i64) (.pair (.sl 2 (.int .i64)) (.pair (.sl 57 (.pair (.int .u8) (.pair (.int .u8) (.pair (.int .u8) (.pair (.int .u8) (.pair (.int .i32) .unit)))))) (.pair (.sl 94 (.pair (.int .i64) (.pair (.int .i64) (.pair (.int .i64) (.pair (.int .i64) (.pair (.int .i64) (.pair .bool .unit))))))) (.pair (.int .i64) (.pair (.arr 8 (.int .i64)) (.pair (.sl 96 (.pair (.int .i64) (.pair (.int .i64) .unit))) (.pair (.sl 4 .bool) (.pair (.sl 98 (.pair (.int .i64) (.pair (.int .i64) .unit))) .unit)))))))))))), (.ow .sh), (16, 0))], [((13, 0), (.val .bool)), ((12, 0), (.val (.int .i64))), ((1, 0), (.val (.int .i64))), ((9, 0), (.own 0)), ((15, 0), (.own 1)), ((16, 0), (.own 2))]⟩)
     (.seq .leaf
     (.seq .leaf
     (.seq .leaf
     (.seq .leaf
     (.pre ⟨[((.ptr 26 (.pair (.sl 55 (.pair (.pair (.int .i64) (.pair (.int .i64) (.pair (.int .i64) (.pair (.int .i64) .unit)))) (.pair (.int .i64) (.pair (.int .i64) (.pair (.sl 2 (.int .i64)) (.pair (.sl 57 (.pair (.int .u8) (.pair (.int .u8) (.pair (.int .u8) (.pair (.int .u8) (.pair (.int .i32) .unit)))))) (.pair (.sl 94 (.pair (.int .i64) (.pair (.int .i64) (.pair (.int .i64) (.pair (.int .i64) (.pair (.int .i64) (.pair .bool .unit))))))) (.pair (.int .i64) (.pair (.arr 8 (.int .i64)) (.pair (.sl 96 (.pair (.int .i64) (.pair (.int .i64) .unit))) (.pair (.sl 4 .bool) (.pair (.sl 98 (.pair (.int .i64) (.pair (.int .i64) .unit))) .unit)))))))))))) (.pair (.sl 65 (.pair (.int .i64) (.pair (.int .i64) (.pair .bool (.pair (.int .i64) (.pair (.int .i64) (.pair (.int .i64) .unit))))))) (.pair (.sl 62 (.pair (.int .i64) (.pair (.int .i64) (.pair (.sl 3 (.int .i64)) (.pair (.int .i64) (.pair (.int .i64) .unit)))))) .unit)))), (.ow .sh), (9, 0)), ((.ptr 26 (.pair (.sl 55 (.pair (.pair (.int .i64) (.pair (.int .i64) (.pair (.int .i64) (.pair (.int .i64) .unit)))) (.pair (.int .i64) (.pair (.int .i64) (.pair (.sl 2 (.int .i64)) (.pair (.sl 57 (.pair (.int .u8) (.pair (.int .u8) (.pair (.int .u8) (.pair (.int .u8) (.pair (.int .i32) .unit)))))) (.pair (.sl 94 (.pair (.int .i64) (.pair (.int .i64) (.pair (.int .i64) (.pair (.int .i64) (.pair (.int .i64) (.pair .bool .unit))))))) (.pair (.int .i64) (.pair (.arr 8 (.int .i64)) (.pair (.sl 96 (.pair (.int .i64) (.pair (.int .i64) .unit))) (.pair (.sl 4 .bool) (.pair (.sl 98 (.pair (.int .i64) (.pair (.int .i64) .unit))) .unit)))))))))))) (.pair (.sl 65 (.pair (.int .i64) (.pair (.int .i64) (.pair .bool (.pair (.int .i64) (.pair (.int .i64) (.pair (.int .i64) .unit))))))) (.pair (.sl 62 (.pair (.int .i64) (.pair (.int .i64) (.pair (.sl 3 (.int .i64)) (.pair (.int .i64) (.pair (.int .i64) .unit)))))) .unit)))), (.ow .sh), (15, 0)), ((.sl 55 (.pair (.pair (.int .i64) (.pair (.int .i64) (.pair (.int .i64) (.pair (.int .i64) .unit)))) (.pair (.int .i64) (.pair (.int .i64) (.pair (.sl 2 (.int .i64)) (.pair (.sl 57 (.pair (.int .u8) (.pair (.int .u8) (.pair (.int .u8) (.pair (.int .u8) (.pair (.int .i32) .unit)))))) (.pair (.sl 94 (.pair (.int .i64) (.pair (.int .i64) (.pair (.int .i64) (.pair (.int .i64) (.pair (.int .i64) (.pair .bool .unit))))))) (.pair (.int .i64) (.pair (.arr 8 (.int .i64)) (.pair (.sl 96 (.pair (.int .i64) (.pair (.int .i64) .unit))) (.pair (.sl 4 .bool) (.pair (.sl 98 (.pair (.int .i64) (.pair (.int .i64) .unit))) .unit)))))))))))), (.ow .sh), (16, 0)), ((.ptr 55 (.pair (.pair (.int .i64) (.pair (.int .i64) (.pair (.int .i64) (.pair (.int .i64) .unit)))) (.pair (.int .i64) (.pair (.int .i64) (.pair (.sl 2 (.int .i64)) (.pair (.sl 57 (.pair (.int .u8) (.pair (.int .u8) (.pair (.int .u8) (.pair (.int .u8) (.pair (.int .i32) .unit)))))) (.pair (.sl 94 (.pair (.int .i64) (.pair (.int .i64) (.pair (.int .i64) (.pair (.int .i64) (.pair (.int .i64) (.pair .bool .unit))))))) (.pair (.int .i64) (.pair (.arr 8 (.int .i64)) (.pair (.sl 96 (.pair (.int .i64) (.pair (.int .i64) .unit))) (.pair (.sl 4 .bool) (.pair (.sl 98 (.pair (.int .i64) (.pair (.int .i64) .unit))) .unit)))))))))))), (.ow .sh), (17, 0))], [((13, 0), (.val .bool)), ((12, 0), (.val (.int .i64))), ((1, 0), (.val (.int .i64))), ((9, 0), (.own 0)), ((15, 0), (.own 1)), ((16, 0), (.own 2)), ((17, 0), (.own 3)), ((2, 0), (.val (.int .i64)))]⟩ .leaf)))))
     (.seq .leaf
     .leaf)))
   (.seq .leaf
   (.seq .leaf
   (.seq .leaf
   (.seq .leaf
   (.seq .leaf
   .leaf))))))))))))))))
def d5_K1 (x0 : Nat) : (((IM × (IM × ((List PA) × Unit))) × (Bool × (Int × (Int × Unit)))) → (Option ((Bool × Unit) × Unit))) :=
  (fun (x13 : ((IM × (IM × ((List PA) × Unit))) × (Bool × (Int × (Int × Unit))))) => (Option.bind (d25 x0 (x13.1.1, (x13.1.1, (x13.2.2.2.1, ())))) fun (x14 : ((Bool × (Int × Unit)) × Unit)) =>
  (Option.bind (d25 x0 (x13.1.1, ((x13.1.2.2.1, x13.1.2.1.2), (x13.2.2.2.1, ())))) fun (x15 : ((Bool × (Int × Unit)) × Unit)) =>
  (Option.bind (d25 x0 ((x13.1.2.2.1, x13.1.2.1.2), (x13.1.1, (x13.2.2.2.1, ())))) fun (x16 : ((Bool × (Int × Unit)) × Unit)) =>
  (lt (x13.2.2.1 == (0 : Int)) fun (x17 : Bool) =>
  (lt (x14.1.2.1 == (0 : Int)) fun (x18 : Bool) =>
  (lt (if (x17 = Bool.true) then
  x18
  else Bool.false) fun (x19 : Bool) =>
  (lt (x15.1.2.1 == (0 : Int)) fun (x20 : Bool) =>
  (lt (if (x19 = Bool.true) then
  x20
  else Bool.false) fun (x21 : Bool) =>
  (lt (x16.1.2.1 == (0 : Int)) fun (x22 : Bool) =>
  (lt (if (x21 = Bool.true) then
  x22
  else Bool.false) fun (x23 : Bool) =>
  (lt (if (x23 = Bool.true) then
  x14.1.1
  else Bool.false) fun (x24 : Bool) =>
  (lt (Bool.not x13.2.1) fun (x25 : Bool) =>
  (lt (x15.1.1 == x25) fun (x26 : Bool) =>
  (lt (if (x24 = Bool.true) then
  x26
  else Bool.false) fun (x27 : Bool) =>
  (lt (Bool.not x13.2.1) fun (x28 : Bool) =>
  (lt (x16.1.1 == x28) fun (x29 : Bool) =>
  (lt (if (x27 = Bool.true) then
  x29
  else Bool.false) fun (x30 : Bool) =>
  (Option.bind (if (((x30 == Bool.true) && Bool.true) = Bool.true) then
  (d24 x0 ())
  else (Option.some ((Bool.false, ()), ()))) fun (x31 : ((Bool × Unit) × Unit)) =>
  (Option.some (((if (x30 = Bool.true) then
  x31.1.1
  else Bool.false), ()), ())))))))))))))))))))))
def d5_K2 (x0 : Nat) : (((IM × (PA × Unit)) × (Bool × (Int × (Int × (Int × Unit))))) → (Option ((Bool × Unit) × Unit))) :=
  (fun (x12 : ((IM × (PA × Unit)) × (Bool × (Int × (Int × (Int × Unit)))))) => (if ((Go.Lift.appFits (0 : Nat) (List.length x12.1.1.1) (264 : Nat)) = Bool.true) then
  (shr (d5_K1 x0) (fun (x13 : (((IM × (IM × ((List PA) × Unit))) × (Bool × (Int × (Int × Unit)))) → (Option ((Bool × Unit) × Unit)))) => (if (x12.2.1 = Bool.true) then
  (lt (Go.IntKind.wrap Go.IntKind.i64 (x12.2.2.2.2.1 - (1 : Int))) fun (x14 : Int) =>
  (if (((Decidable.decide ((0 : Int) ≤ x14)) && (Decidable.decide (x14 < (((List.length x12.1.1.1) : Nat) : Int)))) = Bool.true) then
  (if (((Decidable.decide ((Int.toNat x14) < (List.length x12.1.1.1))) && Bool.true) = Bool.true) then
  (lt (List.getD x12.1.1.1 (Int.toNat x14) (((0 : Int), ((0 : Int), ((0 : Int), ((0 : Int), ())))), ((0 : Int), ((0 : Int), (([] : List Int), (([] : List (Int × (Int × (Int × (Int × (Int × Unit)))))), (([] : List (Int × (Int × (Int × (Int × (Int × (Bool × Unit))))))), ((0 : Int), ((List.replicate (8 : Nat) (0 : Int)), (([] : List (Int × (Int × Unit))), (([] : List Bool), (([] : List (Int × (Int × Unit))), ())))))))))))) fun (x15 : PA) =>
  (lt (List.replicate (8 : Nat) (0 : Int)) fun (x16 : (List Int)) =>
  (if ((Go.Lift.appFits (0 : Nat) (List.length x15.2.2.2.2.1) (8 : Nat)) = Bool.true) then
  (lt (((1 : Int), ((0 : Int), ((0 : Int), ((0 : Int), ((0 : Int), ()))))) :: ([] : List (Int × (Int × (Int × (Int × (Int × Unit))))))) fun (x17 : (List (Int × (Int × (Int × (Int × (Int × Unit))))))) =>
  (if ((Go.Lift.appFits (List.length x15.2.2.2.2.1) (List.length x17) (8 : Nat)) = Bool.true) then
  (lt (x15.2.2.2.2.1 ++ x17) fun (x18 : (List (Int × (Int × (Int × (Int × (Int × Unit))))))) =>
  (lt (Go.IntKind.wrap Go.IntKind.i64 (x12.2.2.2.2.1 - (1 : Int))) fun (x19 : Int) =>
  (if (((Decidable.decide ((0 : Int) ≤ x19)) && (Decidable.decide (x19 < (((List.length x12.1.1.1) : Nat) : Int)))) = Bool.true) then
  (if (((Decidable.decide ((Int.toNat x19) < (List.length x12.1.1.1))) && Bool.true) = Bool.true) then
  (x13 ((x12.1.1, (x12.1.1, ((List.set x12.1.1.1 (Int.toNat x19) (x15.1, (x15.2.1, (x15.2.2.1, (x15.2.2.2.1, (x18, x15.2.2.2.2.2)))))), ()))), (x12.2.1, (x12.2.2.1, (x12.2.2.2.1, ())))))
  else (Option.none))
  else (Option.none))))
  else (Option.none)))
  else (Option.none))))
  else (Option.none))
  else (Option.none)))
  else (lt (Go.IntKind.wrap Go.IntKind.i64 (x12.2.2.2.2.1 - (1 : Int))) fun (x14 : Int) =>
  (if (((Decidable.decide ((0 : Int) ≤ x14)) && (Decidable.decide (x14 < (((List.length x12.1.1.1) : Nat) : Int)))) = Bool.true) then
  (if (((Decidable.decide ((Int.toNat x14) < (List.length x12.1.1.1))) && Bool.true) = Bool.true) then
  (if (((Decidable.decide ((Int.toNat x14) < (List.length x12.1.1.1))) && Bool.true) = Bool.true) then
  (lt (List.getD x12.1.1.1 (Int.toNat x14) (((0 : Int), ((0 : Int), ((0 : Int), ((0 : Int), ())))), ((0 : Int), ((0 : Int), (([] : List Int), (([] : List (Int × (Int × (Int × (Int × (Int × Unit)))))), (([] : List (Int × (Int × (Int × (Int × (Int × (Bool × Unit))))))), ((0 : Int), ((List.replicate (8 : Nat) (0 : Int)), (([] : List (Int × (Int × Unit))), (([] : List Bool), (([] : List (Int × (Int × Unit))), ())))))))))))).1 fun (x15 : (Int × (Int × (Int × (Int × Unit))))) =>
  (lt (Go.IntKind.wrap Go.IntKind.i64 (x12.2.2.2.2.1 - (1 : Int))) fun (x16 : Int) =>
  (if (((Decidable.decide ((0 : Int) ≤ x16)) && (Decidable.decide (x16 < (((List.length x12.1.1.1) : Nat) : Int)))) = Bool.true) then
  (if (((Decidable.decide ((Int.toNat x16) < (List.length x12.1.1.1))) && Bool.true) = Bool.true) then
  (x13 ((x12.1.1, (x12.1.1, ((List.set x12.1.1.1 (Int.toNat x16) (x15, x12.1.2.1.2)), ()))), (x12.2.1, (x12.2.2.1, (x12.2.2.2.1, ())))))
  else (Option.none))
  else (Option.none))))
  else (Option.none))
  else (Option.none))
  else (Option.none))))))
  else (Option.none)))
def d5_K3 (x13 : ((((List Int) × (IM × (PA × Unit))) × (Int × (Int × (Bool × (Int × (Int × Unit)))))) → (Option ((Bool × Unit) × Unit)))) : ((((List Int) × (IM × (PA × Unit))) × (Int × (Bool × (Int × (Int × (Int × Unit)))))) → (Option ((Bool × Unit) × Unit))) :=
  (fun (x17 : (((List Int) × (IM × (PA × Unit))) × (Int × (Bool × (Int × (Int × (Int × Unit))))))) => (x13 ((x17.1.1, (x17.1.2.1, (x17.1.2.2.1, ()))), ((Go.IntKind.wrap Go.IntKind.i64 (x17.2.2.2.2.2.1 + (1 : Int))), (x17.2.1, (x17.2.2.1, (x17.2.2.2.1, (x17.2.2.2.2.1, ()))))))))
def d5_L4 (x12 : (((IM × (PA × Unit)) × (Bool × (Int × (Int × (Int × Unit))))) → (Option ((Bool × Unit) × Unit)))) : (((((List Int) × (IM × (PA × Unit))) × (Int × (Int × (Bool × (Int × (Int × Unit)))))) → (Option ((Bool × Unit) × Unit))) → ((((List Int) × (IM × (PA × Unit))) × (Int × (Int × (Bool × (Int × (Int × Unit)))))) → (Option ((Bool × Unit) × Unit)))) :=
  (fun (x13 : ((((List Int) × (IM × (PA × Unit))) × (Int × (Int × (Bool × (Int × (Int × Unit)))))) → (Option ((Bool × Unit) × Unit)))) => (fun (x14 : (((List Int) × (IM × (PA × Unit))) × (Int × (Int × (Bool × (Int × (Int × Unit))))))) => (lt (((List.length x14.1.1) : Nat) : Int) fun (x15 : Int) =>
  (lt (Decidable.decide (x14.2.1 < x15)) fun (x16 : Bool) =>
  (if (x16 = Bool.true) then
  (shr (d5_K3 x13) (fun (x17 : ((((List Int) × (IM × (PA × Unit))) × (Int × (Bool × (Int × (Int × (Int × Unit)))))) → (Option ((Bool × Unit) × Unit)))) => (if (((Bool.not ((x14.2.2.2.1 == Bool.false) && Bool.true)) || ((Decidable.decide ((0 : Int) ≤ x14.2.1)) && (Decidable.decide (x14.2.1 < (((List.length x14.1.1) : Nat) : Int))))) = Bool.true) then
  (if (((Bool.not ((x14.2.2.2.1 == Bool.false) && Bool.true)) || ((Decidable.decide ((Int.toNat x14.2.1) < (List.length x14.1.1))) && Bool.true)) = Bool.true) then
  (lt (List.getD x14.1.1 (Int.toNat x14.2.1) (0 : Int)) fun (x18 : Int) =>
  (lt (x18 == x14.2.2.1) fun (x19 : Bool) =>
  (x17 ((x14.1.1, (x14.1.2.1, (x14.1.2.2.1, ()))), (x14.2.2.1, ((if (x14.2.2.2.1 = Bool.true) then
  Bool.true
  else x19), (x14.2.2.2.2.1, (x14.2.2.2.2.2.1, (x14.2.1, ())))))))))
  else (Option.none))
  else (Option.none))))
  else (x12 ((x14.1.2.1, (x14.1.2.2.1, ())), (x14.2.2.2.1, (x14.2.2.2.2.1, (x14.2.2.2.2.2.1, (x14.2.2.1, ())))))))))))
def d5 : (Nat → ((IM × (Int × (Int × (PA × Unit)))) → (Option ((Bool × Unit) × Unit)))) :=
  (fun (x0 : Nat) => (fun (x1 : (IM × (Int × (Int × (PA × Unit))))) => (Option.bind (d6 x0 (x1.1, ())) fun (x2 : ((IM × Unit) × Unit)) =>
  (lt (((List.length x2.1.1.1) : Nat) : Int) fun (x3 : Int) =>
  (lt (Decidable.decide (x1.2.1 < (1 : Int))) fun (x4 : Bool) =>
  (lt (Decidable.decide (x1.2.1 > x3)) fun (x5 : Bool) =>
  (lt (if (x4 = Bool.true) then
  Bool.true
  else x5) fun (x6 : Bool) =>
  (lt (Decidable.decide (x1.2.2.1 < (1 : Int))) fun (x7 : Bool) =>
  (lt (if (x6 = Bool.true) then
  Bool.true
  else x7) fun (x8 : Bool) =>
  (lt (Decidable.decide (x1.2.2.1 > x3)) fun (x9 : Bool) =>
  (lt (if (x8 = Bool.true) then
  Bool.true
  else x9) fun (x10 : Bool) =>
  (if (x10 = Bool.true) then
  (Option.bind (d24 x0 ()) fun (x11 : ((Bool × Unit) × Unit)) =>
  (Option.some ((x11.1.1, ()), ())))
  else (Option.bind (d12 x0 (x2.1.1, (x1.2.1, ()))) fun (x11 : (((List Int) × (Int × Unit)) × Unit)) =>
  (shr (d5_K2 x0) (fun (x12 : (((IM × (PA × Unit)) × (Bool × (Int × (Int × (Int × Unit))))) → (Option ((Bool × Unit) × Unit)))) => (loopN (d5_L4 x12) x0 ((x11.1.1, (x2.1.1, (x1.2.2.2.1, ()))), ((0 : Int), (x1.2.2.1, (Bool.false, (x11.1.2.1, (x1.2.1, ()))))))))))))))))))))))
theorem k5 : c_fn Tryd.prog [(6, ⟨s6, d6⟩), (24, ⟨s24, d24⟩), (12, ⟨s12, d12⟩), (25, ⟨s25, d25⟩)] Tryd.f5 s5 h5 = some d5 := by kernel_rfl
end Go.Proofs.YtledeaknnihlmaaDoor.L
