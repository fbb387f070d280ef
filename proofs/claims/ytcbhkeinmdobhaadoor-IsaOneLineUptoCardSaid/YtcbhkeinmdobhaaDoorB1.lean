import Derived.Test.YtcbhkeinmdobhaaDoorRows
import Derived.WalkKit
import Derived.ProofKit
import Derived.BigQuiet
import Derived.WalkSpells
import Derived.WalkLawsBesides
import Derived.Below
import Derived.Handy
import Derived.Lib.Hide
import Derived.Lib.LaidTab
import Derived.Deep.RegionHeld3
import Derived.Outline
namespace Go.Proofs.YtcbhkeinmdobhaaDoor
open Go.ChangeShapes Go.WideShapes Go.ChangeAt Go.RowKit
set_option linter.unusedVariables false
set_option linter.unusedSimpArgs false

def opNames : List (List UInt8) := [[], [110, 111, 112], [108, 100, 105], [108, 100, 104], [109, 111, 118], [108, 100], [115, 116], [97, 100, 100], [115, 117, 98], [109, 117, 108], [100, 105, 118], [109, 111, 100], [97, 110, 100], [111, 114], [120, 111, 114], [115, 104, 108], [115, 104, 114], [115, 97, 114], [97, 100, 100, 105], [115, 108, 116], [115, 108, 116, 117], [115, 101, 113], [106, 109, 112], [106, 122], [106, 110, 122], [106, 109, 114], [99, 97, 108, 108], [115, 121, 115]]
def opShapes : List (List UInt8) := [[], [], [97, 110], [97, 110], [97, 98], [97, 98, 110], [97, 98, 110], [97, 98, 99], [97, 98, 99], [97, 98, 99], [97, 98, 99], [97, 98, 99], [97, 98, 99], [97, 98, 99], [97, 98, 99], [97, 98, 99], [97, 98, 99], [97, 98, 99], [97, 98, 110], [97, 98, 99], [97, 98, 99], [97, 98, 99], [112], [97, 112], [97, 112], [97], [112], [110]]
def nameB (i : Nat) : ByteArray := ⟨(opNames.getD i []).toArray⟩
def shapeB (i : Nat) : ByteArray := ⟨(opShapes.getD i []).toArray⟩

/-- the table's cells -/
def TabOk (w : World) : Prop := ∀ i : Nat, i < 28 → w.cell? ⟨0, i * 2, none⟩ = some (.string (nameB i)) ∧ w.cell? ⟨0, i * 2 + 1, none⟩ = some (.string (shapeB i))

theorem known_yes (n : Int) (w : World) (h1 : 1 ≤ n) (h2 : n ≤ 27) : Calls Tryd.prog 15 #[.int .u8 n] w fun e w' => e = .returned (.bool true) ∧ w = w' := by
  go_enter Tryd.func15, Tryd.ntmps15
  go_wp2
  go_ret
  exact ⟨by first | rfl | (simp; omega), rfl⟩
theorem known_no (n : Int) (w : World) (h : n < 1 ∨ 27 < n) (h0 : 0 ≤ n) (h2 : n < 256) : Calls Tryd.prog 15 #[.int .u8 n] w fun e w' => e = .returned (.bool false) ∧ w = w' := by
  rcases h with h | h
  · have e : n = 0 := by omega
    subst e
    go_enter Tryd.func15, Tryd.ntmps15
    go_wp2
    go_ret
    exact ⟨by first | rfl | (simp; omega), rfl⟩
  · go_enter Tryd.func15, Tryd.ntmps15
    go_wp2
    go_ret
    exact ⟨by first | rfl | (simp; omega), rfl⟩
theorem rknown_yes (n : Int) (w : World) (h1 : 1 ≤ n) (h2 : n ≤ 27) : Calls Tryd.prog 16 #[.int .u8 n] w fun e w' => e = .returned (.bool true) ∧ w = w' := by
  go_enter Tryd.func16, Tryd.ntmps16
  go_wp2
  go_ret
  exact ⟨by first | rfl | (simp; omega), rfl⟩
theorem rknown_no (n : Int) (w : World) (h : n < 1 ∨ 27 < n) (h0 : 0 ≤ n) (h2 : n < 256) : Calls Tryd.prog 16 #[.int .u8 n] w fun e w' => e = .returned (.bool false) ∧ w = w' := by
  rcases h with h | h
  · have e : n = 0 := by omega
    subst e
    go_enter Tryd.func16, Tryd.ntmps16
    go_wp2
    go_ret
    exact ⟨by first | rfl | (simp; omega), rfl⟩
  · go_enter Tryd.func16, Tryd.ntmps16
    go_wp2
    go_ret
    exact ⟨by first | rfl | (simp; omega), rfl⟩

theorem name_yes (i : Nat) (w : World) (h1 : 1 ≤ i) (h2 : i ≤ 27) (hn : w.cell? ⟨0, i * 2, none⟩ = some (.string (nameB i))) : Calls Tryd.prog 11 #[.int .u8 (i : Int)] w fun e w' => e = .returned (.tuple #[.string (nameB i), .bool true]) ∧ w = w' := by
  go_enter Tryd.func11, Tryd.ntmps11
  go_wp2_with (go_at_call 15; refine (known_yes _ _ (by omega) (by omega)).mono ?_; rintro e w' ⟨rfl, rfl⟩)
  go_ret2
  exact ⟨rfl, rfl⟩
theorem name_no (n : Int) (w : World) (h : n < 1 ∨ 27 < n) (h0 : 0 ≤ n) (h2 : n < 256) : Calls Tryd.prog 11 #[.int .u8 n] w fun e w' => e = .returned (.tuple #[.string ⟨#[]⟩, .bool false]) ∧ w = w' := by
  go_enter Tryd.func11, Tryd.ntmps11
  go_wp2_with (go_at_call 15; refine (known_no _ _ h h0 h2).mono ?_; rintro e w' ⟨rfl, rfl⟩)
  go_ret2
  exact ⟨rfl, rfl⟩
theorem shape_yes (i : Nat) (w : World) (h1 : 1 ≤ i) (h2 : i ≤ 27) (hn : w.cell? ⟨0, i * 2 + 1, none⟩ = some (.string (shapeB i))) : Calls Tryd.prog 13 #[.int .u8 (i : Int)] w fun e w' => e = .returned (.tuple #[.string (shapeB i), .bool true]) ∧ w = w' := by
  go_enter Tryd.func13, Tryd.ntmps13
  go_wp2_with (go_at_call 15; refine (known_yes _ _ (by omega) (by omega)).mono ?_; rintro e w' ⟨rfl, rfl⟩)
  go_ret2
  exact ⟨rfl, rfl⟩
theorem shape_no (n : Int) (w : World) (h : n < 1 ∨ 27 < n) (h0 : 0 ≤ n) (h2 : n < 256) : Calls Tryd.prog 13 #[.int .u8 n] w fun e w' => e = .returned (.tuple #[.string ⟨#[]⟩, .bool false]) ∧ w = w' := by
  go_enter Tryd.func13, Tryd.ntmps13
  go_wp2_with (go_at_call 15; refine (known_no _ _ h h0 h2).mono ?_; rintro e w' ⟨rfl, rfl⟩)
  go_ret2
  exact ⟨rfl, rfl⟩
theorem rnames (w : World) : Calls Tryd.prog 30 #[] w fun e w' => e = .returned (.slice (some ⟨w.heap.size, 0, none⟩) 28 28) ∧ w' = w.alloc (.cells (opNames.map fun l => Value.string ⟨l.toArray⟩).toArray 9) := by
  go_enter Tryd.func30, Tryd.ntmps30
  go_wp2
  go_ret
  exact ⟨rfl, rfl⟩
theorem rshapes (w : World) : Calls Tryd.prog 31 #[] w fun e w' => e = .returned (.slice (some ⟨w.heap.size, 0, none⟩) 28 28) ∧ w' = w.alloc (.cells (opShapes.map fun l => Value.string ⟨l.toArray⟩).toArray 9) := by
  go_enter Tryd.func31, Tryd.ntmps31
  go_wp2
  go_ret
  exact ⟨rfl, rfl⟩

def nameCells : Array Value := (opNames.map fun l => Value.string ⟨l.toArray⟩).toArray
def shapeCells : Array Value := (opShapes.map fun l => Value.string ⟨l.toArray⟩).toArray
theorem nameCells_at (i : Nat) (h : i < 28) : nameCells[i]? = some (.string (nameB i)) := by
  have : ∀ i, i < 28 → nameCells[i]? = some (.string (nameB i)) := by
    intro i h
    unfold nameCells nameB
    simp [List.getElem?_map, List.getD, List.getElem?_eq_getElem (show i < opNames.length from h)]
  exact this i h
theorem shapeCells_at (i : Nat) (h : i < 28) : shapeCells[i]? = some (.string (shapeB i)) := by
  unfold shapeCells shapeB
  simp [List.getElem?_map, List.getD, List.getElem?_eq_getElem (show i < opShapes.length from h)]
theorem new_cell (w : World) (cs : Array Value) (t : TypeId) (i : Nat) (v : Value) (h : cs[i]? = some v) : (w.alloc (.cells cs t)).cell? ⟨w.heap.size, i, none⟩ = some v := by
  simp [World.cell?_alloc_new, h]
theorem rname_yes (i : Nat) (w : World) (h1 : 1 ≤ i) (h2 : i ≤ 27) : Calls Tryd.prog 12 #[.int .u8 (i : Int)] w fun e w' => e = .returned (.tuple #[.string (nameB i), .bool true]) ∧ w' = w.alloc (.cells nameCells 9) := by
  have hc := new_cell w nameCells 9 i _ (nameCells_at i (by omega))
  go_enter Tryd.func12, Tryd.ntmps12
  go_wp2_with (first | (go_at_call 16; refine (rknown_yes _ _ (by omega) (by omega)).mono ?_; rintro e w' ⟨rfl, rfl⟩) | (go_at_call 30; refine (rnames _).mono ?_; rintro e w' ⟨rfl, rfl⟩; rw [← nameCells]))
  go_ret2
  exact ⟨rfl, rfl⟩
theorem rshape_yes (i : Nat) (w : World) (h1 : 1 ≤ i) (h2 : i ≤ 27) : Calls Tryd.prog 14 #[.int .u8 (i : Int)] w fun e w' => e = .returned (.tuple #[.string (shapeB i), .bool true]) ∧ w' = w.alloc (.cells shapeCells 9) := by
  have hc := new_cell w shapeCells 9 i _ (shapeCells_at i (by omega))
  go_enter Tryd.func14, Tryd.ntmps14
  go_wp2_with (first | (go_at_call 16; refine (rknown_yes _ _ (by omega) (by omega)).mono ?_; rintro e w' ⟨rfl, rfl⟩) | (go_at_call 31; refine (rshapes _).mono ?_; rintro e w' ⟨rfl, rfl⟩; rw [← shapeCells]))
  go_ret2
  exact ⟨rfl, rfl⟩
theorem rname_no (n : Int) (w : World) (h : n < 1 ∨ 27 < n) (h0 : 0 ≤ n) (h2 : n < 256) : Calls Tryd.prog 12 #[.int .u8 n] w fun e w' => e = .returned (.tuple #[.string ⟨#[]⟩, .bool false]) ∧ w = w' := by
  go_enter Tryd.func12, Tryd.ntmps12
  go_wp2_with (go_at_call 16; refine (rknown_no _ _ h h0 h2).mono ?_; rintro e w' ⟨rfl, rfl⟩)
  go_ret2
  exact ⟨rfl, rfl⟩
theorem rshape_no (n : Int) (w : World) (h : n < 1 ∨ 27 < n) (h0 : 0 ≤ n) (h2 : n < 256) : Calls Tryd.prog 14 #[.int .u8 n] w fun e w' => e = .returned (.tuple #[.string ⟨#[]⟩, .bool false]) ∧ w = w' := by
  go_enter Tryd.func14, Tryd.ntmps14
  go_wp2_with (go_at_call 16; refine (rknown_no _ _ h h0 h2).mono ?_; rintro e w' ⟨rfl, rfl⟩)
  go_ret2
  exact ⟨rfl, rfl⟩
end Go.Proofs.YtcbhkeinmdobhaaDoor
