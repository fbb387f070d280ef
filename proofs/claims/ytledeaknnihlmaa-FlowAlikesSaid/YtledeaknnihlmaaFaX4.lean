import Derived.Test.YtledeaknnihlmaaFaX3
namespace Go.Proofs.Ytledeaknnihlmaa.L
open Go Go.Lift
set_option linter.unusedVariables false
set_option linter.unusedSimpArgs false
set_option maxRecDepth 100000

abbrev kLN : Kt := .win (.sl 66 kWN)
/-! ### what is told the functions that see no further than the length -/
def sP (p : WP) : PA := (p.1, (p.2.1, (p.2.2.1, (Vw p.2.2.2.1, (Vw p.2.2.2.2.1, (Vw p.2.2.2.2.2.1, (p.2.2.2.2.2.2.1, (p.2.2.2.2.2.2.2.1, (Vw p.2.2.2.2.2.2.2.2.1, (Vw p.2.2.2.2.2.2.2.2.2.1, (Vw p.2.2.2.2.2.2.2.2.2.2.1, ())))))))))))
def sC (c : WC) : CH := (c.1, (c.2.1, (Vw c.2.2.1, c.2.2.2)))
def sI (x : WI) : IM := ((Vw x.1).map sP, (Vw x.2.1, ((Vw x.2.2.1).map sC, ())))
def sN (x : WN) : IN := (x.1, (x.2.1, (x.2.2.1, (Vw x.2.2.2.1, ()))))
def sL (z : List WN × Nat) : List IN := (Vw z).map sN
theorem idI : (stripD (.int .i64)) = id := rfl
theorem idB : (stripD .bool) = id := rfl
theorem idS : (stripD kIS) = id := rfl
theorem idC : (stripD kPC) = id := rfl
theorem id2 : (stripD kI2) = id := rfl
theorem idQ : (stripD kPO) = id := rfl
theorem sP_eq : stripD kWP = sP := by
  funext p
  show ((p.1, (p.2.1, (p.2.2.1, (List.map (stripD (.int .i64)) (Vw p.2.2.2.1), (List.map (stripD kIS) (Vw p.2.2.2.2.1), (List.map (stripD kPC) (Vw p.2.2.2.2.2.1), (p.2.2.2.2.2.2.1, (List.map (stripD (.int .i64)) p.2.2.2.2.2.2.2.1, (List.map (stripD kI2) (Vw p.2.2.2.2.2.2.2.2.1), (List.map (stripD .bool) (Vw p.2.2.2.2.2.2.2.2.2.1), (List.map (stripD kI2) (Vw p.2.2.2.2.2.2.2.2.2.2.1), ()))))))))))) : PA) = _
  rw [idI, idS, idC, id2, idB]
  simp only [List.map_id]
  rfl
theorem sC_eq : stripD kWC = sC := by
  funext c
  show ((c.1, (c.2.1, (List.map (stripD (.int .i64)) (Vw c.2.2.1), c.2.2.2))) : CH) = _
  rw [idI, List.map_id]; rfl
theorem sN_eq : stripD kWN = sN := by
  funext c
  show ((c.1, (c.2.1, (c.2.2.1, (List.map (stripD (.int .i64)) (Vw c.2.2.2.1), ())))) : IN) = _
  rw [idI, List.map_id]; rfl
theorem sI_eq (x : WI) : stripD kWI x = sI x := by
  show ((List.map (stripD kWP) (Vw x.1), (List.map (stripD kPO) (Vw x.2.1), (List.map (stripD kWC) (Vw x.2.2.1), ()))) : IM) = _
  rw [sP_eq, sC_eq, idQ, List.map_id]; rfl
theorem sL_eq (z : List WN × Nat) : stripD kLN z = sL z := by
  show (List.map (stripD kWN) (Vw z) : List IN) = _
  rw [sN_eq]; rfl
theorem d14_K1_def (x0 : Nat) : d14_K1 x0 = 
  (fun (x4 : (((((List WP) × Nat) × (((List (Int × (Int × (Bool × (Int × I2))))) × Nat) × (((List WC) × Nat) × Unit))) × (((List WN) × Nat) × (((List WN) × Nat) × Unit))) × (Int × (((List WN) × Nat) × (((List WN) × Nat) × (Bool × Unit)))))) => (Option.bind (d8 x0 ((stripD kWI x4.1.1), ((stripD kLN x4.1.2.2.1), ((stripD kLN x4.2.2.1), (x4.2.1, ()))))) fun (x5 : ((Bool × (Int × Unit)) × Unit)) =>
  (Option.bind (d11 x0 ((stripD kWI x4.1.1), ((stripD kLN x4.1.2.1), ((stripD kLN x4.2.2.1), (x4.2.1, ()))))) fun (x6 : ((Bool × Unit) × Unit)) =>
  (lt (x4.2.2.2.2.1 == x6.1.1) fun (x7 : Bool) =>
  (Option.bind (if (((x7 == Bool.true) && Bool.true) = Bool.true) then
  (d11 x0 ((stripD kWI x4.1.1), ((stripD kLN x4.2.2.2.1), ((stripD kLN x4.2.2.1), (x4.2.1, ())))))
  else (Option.some ((Bool.false, ()), ()))) fun (x8 : ((Bool × Unit) × Unit)) =>
  (lt (x5.1.1 == x8.1.1) fun (x9 : Bool) =>
  (Option.some (((if (x7 = Bool.true) then
  x9
  else Bool.false), ()), ())))))))) := rfl
theorem d14_K4_def (x0 : Nat) : d14_K4 x0 = 
  (fun (x2 : ((((List WN) × Nat) × ((((List WP) × Nat) × (((List (Int × (Int × (Bool × (Int × I2))))) × Nat) × (((List WC) × Nat) × Unit))) × (((List WN) × Nat) × Unit))) × (((List WN) × Nat) × (Int × (((List WN) × Nat) × Unit))))) => (Option.bind (d8 x0 ((stripD kWI x2.1.2.1), ((stripD kLN x2.1.1), ((stripD kLN x2.2.2.2.1), (x2.2.2.1, ()))))) fun (x3 : ((Bool × (Int × Unit)) × Unit)) =>
  (shr (d14_K1 x0) (fun (x4 : ((((((List WP) × Nat) × (((List (Int × (Int × (Bool × (Int × I2))))) × Nat) × (((List WC) × Nat) × Unit))) × (((List WN) × Nat) × (((List WN) × Nat) × Unit))) × (Int × (((List WN) × Nat) × (((List WN) × Nat) × (Bool × Unit))))) → (Option ((Bool × Unit) × Unit)))) => (loopN (d14_L3 x4) x0 ((x2.1.1, (x2.1.2.1, (x2.1.2.2.1, ()))), ((0 : Int), (x2.2.1, (x2.2.2.1, (x2.2.2.2.1, (x3.1.1, ()))))))))))) := rfl
theorem d15_K1_def (x0 : Nat) : d15_K1 x0 = 
  (fun (x11 : (((((List WP) × Nat) × (((List (Int × (Int × (Bool × (Int × I2))))) × Nat) × (((List WC) × Nat) × Unit))) × ((((List WP) × Nat) × (((List (Int × (Int × (Bool × (Int × I2))))) × Nat) × (((List WC) × Nat) × Unit))) × ((((List WP) × Nat) × (((List (Int × (Int × (Bool × (Int × I2))))) × Nat) × (((List WC) × Nat) × Unit))) × ((((List WP) × Nat) × (((List (Int × (Int × (Bool × (Int × I2))))) × Nat) × (((List WC) × Nat) × Unit))) × Unit)))) × (Int × (Bool × (Bool × (Bool × Unit)))))) => (Option.bind (d6 x0 ((stripD kWI x11.1.2.2.2.1), ((stripD kWI x11.1.2.1), (x11.2.1, ())))) fun (x12 : ((Bool × (Int × Unit)) × Unit)) =>
  (lt (((List.length (List.take x11.1.1.1.2 x11.1.1.1.1)) : Nat) : Int) fun (x13 : Int) =>
  (lt (Decidable.decide (x11.2.1 > x13)) fun (x14 : Bool) =>
  (if (x14 = Bool.true) then
  (lt (Bool.not x11.2.2.2.2.1) fun (x15 : Bool) =>
  (lt (Bool.not x12.1.1) fun (x16 : Bool) =>
  (lt (if (x15 = Bool.true) then
  x16
  else Bool.false) fun (x17 : Bool) =>
  (Option.bind (if (((x17 == Bool.true) && Bool.true) = Bool.true) then
  (d10 x0 ((stripD kWI x11.1.2.1), ((stripD kWI x11.1.2.2.1), (x11.2.1, ()))))
  else (Option.some ((Bool.false, ()), ()))) fun (x18 : ((Bool × Unit) × Unit)) =>
  (lt (x11.2.2.2.1 == x18.1.1) fun (x19 : Bool) =>
  (lt (if (x17 = Bool.true) then
  x19
  else Bool.false) fun (x20 : Bool) =>
  (Option.bind (if (((x20 == Bool.true) && Bool.true) = Bool.true) then
  (d10 x0 ((stripD kWI x11.1.2.1), ((stripD kWI x11.1.1), (x11.2.1, ()))))
  else (Option.some ((Bool.false, ()), ()))) fun (x21 : ((Bool × Unit) × Unit)) =>
  (lt (x11.2.2.1 == x21.1.1) fun (x22 : Bool) =>
  (Option.some (((if (x20 = Bool.true) then
  x22
  else Bool.false), ()), ()))))))))))
  else (Option.bind (d10 x0 ((stripD kWI x11.1.2.1), ((stripD kWI x11.1.2.2.1), (x11.2.1, ())))) fun (x15 : ((Bool × Unit) × Unit)) =>
  (lt (x11.2.2.2.1 == x15.1.1) fun (x16 : Bool) =>
  (Option.bind (if (((x16 == Bool.true) && Bool.true) = Bool.true) then
  (d10 x0 ((stripD kWI x11.1.2.2.1), ((stripD kWI x11.1.2.1), (x11.2.1, ()))))
  else (Option.some ((Bool.false, ()), ()))) fun (x17 : ((Bool × Unit) × Unit)) =>
  (lt (x11.2.2.2.2.1 == x17.1.1) fun (x18 : Bool) =>
  (lt (if (x16 = Bool.true) then
  x18
  else Bool.false) fun (x19 : Bool) =>
  (Option.bind (if (((x19 == Bool.true) && Bool.true) = Bool.true) then
  (d10 x0 ((stripD kWI x11.1.2.1), ((stripD kWI x11.1.1), (x11.2.1, ()))))
  else (Option.some ((Bool.false, ()), ()))) fun (x20 : ((Bool × Unit) × Unit)) =>
  (lt (x11.2.2.1 == x20.1.1) fun (x21 : Bool) =>
  (lt (if (x19 = Bool.true) then
  x21
  else Bool.false) fun (x22 : Bool) =>
  (Option.bind (if (((x22 == Bool.true) && Bool.true) = Bool.true) then
  (d10 x0 ((stripD kWI x11.1.1), ((stripD kWI x11.1.2.1), (x11.2.1, ()))))
  else (Option.some ((Bool.false, ()), ()))) fun (x23 : ((Bool × Unit) × Unit)) =>
  (lt (x12.1.1 == x23.1.1) fun (x24 : Bool) =>
  (Option.some (((if (x22 = Bool.true) then
  x24
  else Bool.false), ()), ()))))))))))))))))) := rfl
theorem d15_K4_def (x0 : Nat) : d15_K4 x0 = 
  (fun (x9 : (((((List WP) × Nat) × (((List (Int × (Int × (Bool × (Int × I2))))) × Nat) × (((List WC) × Nat) × Unit))) × ((((List WP) × Nat) × (((List (Int × (Int × (Bool × (Int × I2))))) × Nat) × (((List WC) × Nat) × Unit))) × ((((List WP) × Nat) × (((List (Int × (Int × (Bool × (Int × I2))))) × Nat) × (((List WC) × Nat) × Unit))) × ((((List WP) × Nat) × (((List (Int × (Int × (Bool × (Int × I2))))) × Nat) × (((List WC) × Nat) × Unit))) × Unit)))) × (Int × (Bool × (Bool × Unit))))) => (Option.bind (d6 x0 ((stripD kWI x9.1.2.1), ((stripD kWI x9.1.2.2.1), (x9.2.1, ())))) fun (x10 : ((Bool × (Int × Unit)) × Unit)) =>
  (shr (d15_K1 x0) (fun (x11 : ((((((List WP) × Nat) × (((List (Int × (Int × (Bool × (Int × I2))))) × Nat) × (((List WC) × Nat) × Unit))) × ((((List WP) × Nat) × (((List (Int × (Int × (Bool × (Int × I2))))) × Nat) × (((List WC) × Nat) × Unit))) × ((((List WP) × Nat) × (((List (Int × (Int × (Bool × (Int × I2))))) × Nat) × (((List WC) × Nat) × Unit))) × ((((List WP) × Nat) × (((List (Int × (Int × (Bool × (Int × I2))))) × Nat) × (((List WC) × Nat) × Unit))) × Unit)))) × (Int × (Bool × (Bool × (Bool × Unit))))) → (Option ((Bool × Unit) × Unit)))) => (loopN (d15_L3 x11) x0 ((x9.1.1, (x9.1.2.1, (x9.1.2.2.1, (x9.1.2.2.2.1, ())))), ((0 : Int), (x9.2.1, (x9.2.2.1, (x9.2.2.2.1, (x10.1.1, ()))))))))))) := rfl
theorem d15_K7_def (x0 : Nat) : d15_K7 x0 = 
  (fun (x7 : (((((List WP) × Nat) × (((List (Int × (Int × (Bool × (Int × I2))))) × Nat) × (((List WC) × Nat) × Unit))) × ((((List WP) × Nat) × (((List (Int × (Int × (Bool × (Int × I2))))) × Nat) × (((List WC) × Nat) × Unit))) × ((((List WP) × Nat) × (((List (Int × (Int × (Bool × (Int × I2))))) × Nat) × (((List WC) × Nat) × Unit))) × ((((List WP) × Nat) × (((List (Int × (Int × (Bool × (Int × I2))))) × Nat) × (((List WC) × Nat) × Unit))) × Unit)))) × (Int × (Bool × Unit)))) => (Option.bind (d6 x0 ((stripD kWI x7.1.2.2.2.1), ((stripD kWI x7.1.2.1), (x7.2.1, ())))) fun (x8 : ((Bool × (Int × Unit)) × Unit)) =>
  (shr (d15_K4 x0) (fun (x9 : ((((((List WP) × Nat) × (((List (Int × (Int × (Bool × (Int × I2))))) × Nat) × (((List WC) × Nat) × Unit))) × ((((List WP) × Nat) × (((List (Int × (Int × (Bool × (Int × I2))))) × Nat) × (((List WC) × Nat) × Unit))) × ((((List WP) × Nat) × (((List (Int × (Int × (Bool × (Int × I2))))) × Nat) × (((List WC) × Nat) × Unit))) × ((((List WP) × Nat) × (((List (Int × (Int × (Bool × (Int × I2))))) × Nat) × (((List WC) × Nat) × Unit))) × Unit)))) × (Int × (Bool × (Bool × Unit)))) → (Option ((Bool × Unit) × Unit)))) => (loopN (d15_L6 x9) x0 ((x7.1.1, (x7.1.2.1, (x7.1.2.2.1, (x7.1.2.2.2.1, ())))), ((0 : Int), (x7.2.1, (x8.1.1, (x7.2.2.1, ())))))))))) := rfl
theorem d15_def : d15 = 
  (fun (x0 : Nat) => (fun (x1 : ((((List WP) × Nat) × (((List (Int × (Int × (Bool × (Int × I2))))) × Nat) × (((List WC) × Nat) × Unit))) × ((((List WP) × Nat) × (((List (Int × (Int × (Bool × (Int × I2))))) × Nat) × (((List WC) × Nat) × Unit))) × (Int × Unit)))) => (Option.bind (d5 x0 (x1.2.1, ())) fun (x2 : (((((List WP) × Nat) × (((List (Int × (Int × (Bool × (Int × I2))))) × Nat) × (((List WC) × Nat) × Unit))) × Unit) × Unit)) =>
  (Option.bind (d5 x0 (x1.2.1, ())) fun (x3 : (((((List WP) × Nat) × (((List (Int × (Int × (Bool × (Int × I2))))) × Nat) × (((List WC) × Nat) × Unit))) × Unit) × Unit)) =>
  (Option.bind (d35 x0 (x1.2.1.2.1, ())) fun (x4 : ((((List (Int × (Int × (Bool × (Int × I2))))) × Nat) × Unit) × Unit)) =>
  (Option.bind (d35 x0 (x1.2.1.2.1, ())) fun (x5 : ((((List (Int × (Int × (Bool × (Int × I2))))) × Nat) × Unit) × Unit)) =>
  (Option.bind (d6 x0 ((stripD kWI x1.1), ((stripD kWI ((x2.1.1.1, (x4.1.1, x2.1.1.2.2)) : WI)), (x1.2.2.1, ())))) fun (x6 : ((Bool × (Int × Unit)) × Unit)) =>
  (shr (d15_K7 x0) (fun (x7 : ((((((List WP) × Nat) × (((List (Int × (Int × (Bool × (Int × I2))))) × Nat) × (((List WC) × Nat) × Unit))) × ((((List WP) × Nat) × (((List (Int × (Int × (Bool × (Int × I2))))) × Nat) × (((List WC) × Nat) × Unit))) × ((((List WP) × Nat) × (((List (Int × (Int × (Bool × (Int × I2))))) × Nat) × (((List WC) × Nat) × Unit))) × ((((List WP) × Nat) × (((List (Int × (Int × (Bool × (Int × I2))))) × Nat) × (((List WC) × Nat) × Unit))) × Unit)))) × (Int × (Bool × Unit))) → (Option ((Bool × Unit) × Unit)))) => (loopN (d15_L9 x7) x0 ((x1.2.1, ((x2.1.1.1, (x4.1.1, x2.1.1.2.2)), ((x3.1.1.1, (x5.1.1, x3.1.1.2.2)), (x1.1, ())))), ((0 : Int), (x1.2.2.1, (x6.1.1, ())))))))))))))) := rfl
theorem d3_def : d3 = 
  (fun (x0 : Nat) => (fun (x1 : ((((List WP) × Nat) × (((List (Int × (Int × (Bool × (Int × I2))))) × Nat) × (((List WC) × Nat) × Unit))) × ((((List WP) × Nat) × (((List (Int × (Int × (Bool × (Int × I2))))) × Nat) × (((List WC) × Nat) × Unit))) × (((List WN) × Nat) × (((List WN) × Nat) × (Int × Unit)))))) => (Option.bind (d4 x0 (x1.1, ())) fun (x2 : (((((List WP) × Nat) × (((List (Int × (Int × (Bool × (Int × I2))))) × Nat) × (((List WC) × Nat) × Unit))) × Unit) × Unit)) =>
  (Option.bind (d4 x0 (x1.2.1, ())) fun (x3 : (((((List WP) × Nat) × (((List (Int × (Int × (Bool × (Int × I2))))) × Nat) × (((List WC) × Nat) × Unit))) × Unit) × Unit)) =>
  (Option.bind (d5 x0 (x2.1.1, ())) fun (x4 : (((((List WP) × Nat) × (((List (Int × (Int × (Bool × (Int × I2))))) × Nat) × (((List WC) × Nat) × Unit))) × Unit) × Unit)) =>
  (Option.bind (d5 x0 (x3.1.1, ())) fun (x5 : (((((List WP) × Nat) × (((List (Int × (Int × (Bool × (Int × I2))))) × Nat) × (((List WC) × Nat) × Unit))) × Unit) × Unit)) =>
  (Option.bind (d6 x0 ((stripD kWI x4.1.1), ((stripD kWI x5.1.1), (x1.2.2.2.2.1, ())))) fun (x6 : ((Bool × (Int × Unit)) × Unit)) =>
  (Option.bind (d7 x0 (x1.2.2.1, ())) fun (x7 : ((((List WN) × Nat) × Unit) × Unit)) =>
  (Option.bind (d7 x0 (x1.2.2.2.1, ())) fun (x8 : ((((List WN) × Nat) × Unit) × Unit)) =>
  (Option.bind (d8 x0 ((stripD kWI x4.1.1), ((stripD kLN x7.1.1), ((stripD kLN x8.1.1), (x1.2.2.2.2.1, ()))))) fun (x9 : ((Bool × (Int × Unit)) × Unit)) =>
  (Option.bind (d9 x0 (x7.1.1, (x1.2.2.1, ()))) fun (x10 : ((Bool × Unit) × Unit)) =>
  (lt (Bool.not x10.1.1) fun (x11 : Bool) =>
  (Option.bind (if (((x11 == Bool.false) && Bool.true) = Bool.true) then
  (d9 x0 (x8.1.1, (x1.2.2.2.1, ())))
  else (Option.some ((Bool.false, ()), ()))) fun (x12 : ((Bool × Unit) × Unit)) =>
  (lt (Bool.not x12.1.1) fun (x13 : Bool) =>
  (lt (if (x11 = Bool.true) then
  Bool.true
  else x13) fun (x14 : Bool) =>
  (if (x14 = Bool.true) then
  (Option.some ((Bool.false, ()), ()))
  else (lt (Decidable.decide (x1.2.2.2.2.1 < (1 : Int))) fun (x15 : Bool) =>
  (lt ((x4.1.1.1.2 : Nat) : Int) fun (x16 : Int) =>
  (lt (Decidable.decide (x1.2.2.2.2.1 > x16)) fun (x17 : Bool) =>
  (lt (if (x15 = Bool.true) then
  Bool.true
  else x17) fun (x18 : Bool) =>
  (if (x18 = Bool.true) then
  (lt (x6.1.2.1 == (220 : Int)) fun (x19 : Bool) =>
  (lt (x9.1.2.1 == (220 : Int)) fun (x20 : Bool) =>
  (lt (if (x19 = Bool.true) then
  x20
  else Bool.false) fun (x21 : Bool) =>
  (lt (Bool.not x6.1.1) fun (x22 : Bool) =>
  (lt (if (x21 = Bool.true) then
  x22
  else Bool.false) fun (x23 : Bool) =>
  (lt (Bool.not x9.1.1) fun (x24 : Bool) =>
  (Option.some (((if (x23 = Bool.true) then
  x24
  else Bool.false), ()), ()))))))))
  else (lt (x6.1.2.1 != (0 : Int)) fun (x19 : Bool) =>
  (lt (x9.1.2.1 != (0 : Int)) fun (x20 : Bool) =>
  (lt (if (x19 = Bool.true) then
  Bool.true
  else x20) fun (x21 : Bool) =>
  (Option.bind (if (((x21 == Bool.false) && Bool.true) = Bool.true) then
  (d10 x0 ((stripD kWI x2.1.1), ((stripD kWI x3.1.1), (x1.2.2.2.2.1, ()))))
  else (Option.some ((Bool.false, ()), ()))) fun (x22 : ((Bool × Unit) × Unit)) =>
  (lt (Bool.not (x6.1.1 == x22.1.1)) fun (x23 : Bool) =>
  (lt (if (x21 = Bool.true) then
  Bool.true
  else x23) fun (x24 : Bool) =>
  (Option.bind (if (((x24 == Bool.false) && Bool.true) = Bool.true) then
  (d11 x0 ((stripD kWI x2.1.1), ((stripD kLN x1.2.2.1), ((stripD kLN x1.2.2.2.1), (x1.2.2.2.2.1, ())))))
  else (Option.some ((Bool.false, ()), ()))) fun (x25 : ((Bool × Unit) × Unit)) =>
  (lt (Bool.not (x9.1.1 == x25.1.1)) fun (x26 : Bool) =>
  (lt (if (x24 = Bool.true) then
  Bool.true
  else x26) fun (x27 : Bool) =>
  (if (x27 = Bool.true) then
  (Option.some ((Bool.false, ()), ()))
  else (Option.bind (d12 x0 ((stripD kWI x4.1.1), ((stripD kWI x2.1.1), ()))) fun (x28 : ((Bool × Unit) × Unit)) =>
  (Option.bind (if (((x28.1.1 == Bool.true) && Bool.true) = Bool.true) then
  (d12 x0 ((stripD kWI x5.1.1), ((stripD kWI x3.1.1), ())))
  else (Option.some ((Bool.false, ()), ()))) fun (x29 : ((Bool × Unit) × Unit)) =>
  (lt (if (x28.1.1 = Bool.true) then
  x29.1.1
  else Bool.false) fun (x30 : Bool) =>
  (Option.bind (if (((x30 == Bool.true) && Bool.true) = Bool.true) then
  (d13 x0 (x4.1.1, ()))
  else (Option.some ((Bool.false, ()), ()))) fun (x31 : ((Bool × Unit) × Unit)) =>
  (lt (if (x30 = Bool.true) then
  x31.1.1
  else Bool.false) fun (x32 : Bool) =>
  (Option.bind (if (((x32 == Bool.true) && Bool.true) = Bool.true) then
  (d13 x0 (x5.1.1, ()))
  else (Option.some ((Bool.false, ()), ()))) fun (x33 : ((Bool × Unit) × Unit)) =>
  (lt (if (x32 = Bool.true) then
  x33.1.1
  else Bool.false) fun (x34 : Bool) =>
  (Option.bind (if (((x34 == Bool.true) && Bool.true) = Bool.true) then
  (d14 x0 (x4.1.1, (x1.2.2.1, (x1.2.2.2.1, (x1.2.2.2.2.1, ())))))
  else (Option.some ((Bool.false, ()), ()))) fun (x35 : ((Bool × Unit) × Unit)) =>
  (lt (if (x34 = Bool.true) then
  x35.1.1
  else Bool.false) fun (x36 : Bool) =>
  (Option.bind (if (((x36 == Bool.true) && Bool.true) = Bool.true) then
  (d15 x0 (x4.1.1, (x5.1.1, (x1.2.2.2.2.1, ()))))
  else (Option.some ((Bool.false, ()), ()))) fun (x37 : ((Bool × Unit) × Unit)) =>
  (Option.some (((if (x36 = Bool.true) then
  x37.1.1
  else Bool.false), ()), ()))))))))))))))))))))))))))))))))))))))))))) := rfl

theorem vw_m {α : Type} (l : List α) (m : α) : Vw (l ++ [m], l.length) = l := take_mark l m
theorem vwA {α : Type} (l : List α) : Vw (l, l.length) = l := List.take_length
theorem vwM {α β : Type} (f : α → β) (l : List α) : Vw (l.map f, l.length) = l.map f := List.take_of_length_le (by rw [List.length_map]; exact Nat.le_refl _)
theorem g1 (x : WI) : Vw (gI x).1 = (Vw x.1).map gP := by
  have : (Vw x.1).length = ((Vw x.1).map gP).length := (List.length_map ..).symm
  show List.take (Vw x.1).length ((Vw x.1).map gP ++ [mkP]) = _
  rw [this, take_mark]
theorem g2 (x : WI) : Vw (gI x).2.1 = Vw x.2.1 := vw_m _ _
theorem g3 (x : WI) : Vw (gI x).2.2.1 = (Vw x.2.2.1).map gC := by
  have : (Vw x.2.2.1).length = ((Vw x.2.2.1).map gC).length := (List.length_map ..).symm
  show List.take (Vw x.2.2.1).length ((Vw x.2.2.1).map gC ++ [mkC]) = _
  rw [this, take_mark]
theorem sP_g (p : WP) : sP (gP p) = sP p := by
  simp only [sP, gP, vw_m]
theorem sC_g (c : WC) : sC (gC c) = sC c := by
  simp only [sC, gC, vw_m]
theorem sN_g (x : WN) : sN (gN x) = sN x := by
  simp only [sN, gN, vw_m]
theorem sI_g (x : WI) : sI (gI x) = sI x := by
  unfold sI
  rw [g1, g2, g3, List.map_map, List.map_map]
  have e1 : sP ∘ gP = sP := funext sP_g
  have e2 : sC ∘ gC = sC := funext sC_g
  rw [e1, e2]
theorem sL_g (z : List WN × Nat) : sL (gL z) = sL z := by
  unfold sL
  rw [vw_gL, List.map_map]
  have e1 : sN ∘ gN = sN := funext sN_g
  rw [e1]
/-- Twins have room again. -/
theorem RmP.g {p : WP} (h : RmP p) : RmP (gP p) := by
  refine ⟨?_, ?_, ?_, ?_, ?_, ?_⟩
  · show Rm (Vw (gP p).2.2.2.1).length 8
    rw [show Vw (gP p).2.2.2.1 = _ from vw_m _ _]; exact h.i
  · show Rm (Vw (gP p).2.2.2.2.1).length 8
    rw [show Vw (gP p).2.2.2.2.1 = _ from vw_m _ _]; exact h.c
  · show Rm (Vw (gP p).2.2.2.2.2.1).length 48
    rw [show Vw (gP p).2.2.2.2.2.1 = _ from vw_m _ _]; exact h.r
  · show Rm (Vw (gP p).2.2.2.2.2.2.2.2.1).length 16
    rw [show Vw (gP p).2.2.2.2.2.2.2.2.1 = _ from vw_m _ _]; exact h.s
  · show Rm (Vw (gP p).2.2.2.2.2.2.2.2.2.1).length 1
    rw [show Vw (gP p).2.2.2.2.2.2.2.2.2.1 = _ from vw_m _ _]; exact h.e
  · show Rm (Vw (gP p).2.2.2.2.2.2.2.2.2.2.1).length 16
    rw [show Vw (gP p).2.2.2.2.2.2.2.2.2.2.1 = _ from vw_m _ _]; exact h.b
theorem RmI.g {x : WI} (h : RmI x) : RmI (gI x) := by
  refine ⟨by rw [g1, List.length_map]; exact h.p, by rw [g2]; exact h.q, by rw [g3, List.length_map]; exact h.c, fun p hp => ?_, fun c hc => ?_⟩
  · rw [g1] at hp
    obtain ⟨q, hq, rfl⟩ := List.mem_map.1 hp
    exact (h.ps q hq).g
  · rw [g3] at hc
    obtain ⟨q, hq, rfl⟩ := List.mem_map.1 hc
    rw [show Vw (gC q).2.2.1 = _ from vw_m _ _]; exact h.cs q hq
end Go.Proofs.Ytledeaknnihlmaa.L
