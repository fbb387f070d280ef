import Derived.Test.YtcbhkeinmdobhaaDoorRows
import Derived.WalkKit
import Derived.ProofKit
import Derived.BigQuiet
import Derived.WalkSpells
import Derived.WalkLawsBesides
import Derived.Below
import Derived.Handy
import Derived.Lib.Hide
import Derived.Lib.LaidTab
import Derived.Deep.RegionHeld3
import Derived.Outline
import Derived.Test.YtcbhkeinmdobhaaDoorProg
import Derived.Deep.Quiet
import Derived.Deep.QuietTactic
import Derived.KernelRfl
import Derived.Deep.Draws
import Derived.Deep.AppendLies
import Derived.Maps.AppendAt
import Derived.OwnWalk
import Derived.Laws.OwnMore
import Derived.Deep.OwnRows
import Derived.Laws.Rows
import Derived.Lib.ConvBytes
import Derived.Lib.AppendIntMem
import Derived.Lib.Join
namespace Go.Proofs.YtcbhkeinmdobhaaDoor
open Go.ChangeShapes Go.WideShapes Go.ChangeAt Go.RowKit
set_option linter.unusedVariables false
set_option linter.unusedSimpArgs false

def opNames : List (List UInt8) := [[], [110, 111, 112], [108, 100, 105], [108, 100, 104], [109, 111, 118], [108, 100], [115, 116], [97, 100, 100], [115, 117, 98], [109, 117, 108], [100, 105, 118], [109, 111, 100], [97, 110, 100], [111, 114], [120, 111, 114], [115, 104, 108], [115, 104, 114], [115, 97, 114], [97, 100, 100, 105], [115, 108, 116], [115, 108, 116, 117], [115, 101, 113], [106, 109, 112], [106, 122], [106, 110, 122], [106, 109, 114], [99, 97, 108, 108], [115, 121, 115]]
def opShapes : List (List UInt8) := [[], [], [97, 110], [97, 110], [97, 98], [97, 98, 110], [97, 98, 110], [97, 98, 99], [97, 98, 99], [97, 98, 99], [97, 98, 99], [97, 98, 99], [97, 98, 99], [97, 98, 99], [97, 98, 99], [97, 98, 99], [97, 98, 99], [97, 98, 99], [97, 98, 110], [97, 98, 99], [97, 98, 99], [97, 98, 99], [112], [97, 112], [97, 112], [97], [112], [110]]
def nameB (i : Nat) : ByteArray := ⟨(opNames.getD i []).toArray⟩
def shapeB (i : Nat) : ByteArray := ⟨(opShapes.getD i []).toArray⟩

/-- the table's cells -/
def TabOk (w : World) : Prop := ∀ i : Nat, i < 28 → w.cell? ⟨0, i * 2, none⟩ = some (.string (nameB i)) ∧ w.cell? ⟨0, i * 2 + 1, none⟩ = some (.string (shapeB i))

theorem known_yes (n : Int) (w : World) (h1 : 1 ≤ n) (h2 : n ≤ 27) : Calls Tryd.prog 15 #[.int .u8 n] w fun e w' => e = .returned (.bool true) ∧ w = w' := by
  go_enter Tryd.func15, Tryd.ntmps15
  go_wp2
  go_ret
  exact ⟨by first | rfl | (simp; omega), rfl⟩
theorem known_no (n : Int) (w : World) (h : n < 1 ∨ 27 < n) (h0 : 0 ≤ n) (h2 : n < 256) : Calls Tryd.prog 15 #[.int .u8 n] w fun e w' => e = .returned (.bool false) ∧ w = w' := by
  rcases h with h | h
  · have e : n = 0 := by omega
    subst e
    go_enter Tryd.func15, Tryd.ntmps15
    go_wp2
    go_ret
    exact ⟨by first | rfl | (simp; omega), rfl⟩
  · go_enter Tryd.func15, Tryd.ntmps15
    go_wp2
    go_ret
    exact ⟨by first | rfl | (simp; omega), rfl⟩
theorem rknown_yes (n : Int) (w : World) (h1 : 1 ≤ n) (h2 : n ≤ 27) : Calls Tryd.prog 16 #[.int .u8 n] w fun e w' => e = .returned (.bool true) ∧ w = w' := by
  go_enter Tryd.func16, Tryd.ntmps16
  go_wp2
  go_ret
  exact ⟨by first | rfl | (simp; omega), rfl⟩
theorem rknown_no (n : Int) (w : World) (h : n < 1 ∨ 27 < n) (h0 : 0 ≤ n) (h2 : n < 256) : Calls Tryd.prog 16 #[.int .u8 n] w fun e w' => e = .returned (.bool false) ∧ w = w' := by
  rcases h with h | h
  · have e : n = 0 := by omega
    subst e
    go_enter Tryd.func16, Tryd.ntmps16
    go_wp2
    go_ret
    exact ⟨by first | rfl | (simp; omega), rfl⟩
  · go_enter Tryd.func16, Tryd.ntmps16
    go_wp2
    go_ret
    exact ⟨by first | rfl | (simp; omega), rfl⟩

theorem name_yes (i : Nat) (w : World) (h1 : 1 ≤ i) (h2 : i ≤ 27) (hn : w.cell? ⟨0, i * 2, none⟩ = some (.string (nameB i))) : Calls Tryd.prog 11 #[.int .u8 (i : Int)] w fun e w' => e = .returned (.tuple #[.string (nameB i), .bool true]) ∧ w = w' := by
  go_enter Tryd.func11, Tryd.ntmps11
  go_wp2_with (go_at_call 15; refine (known_yes _ _ (by omega) (by omega)).mono ?_; rintro e w' ⟨rfl, rfl⟩)
  go_ret2
  exact ⟨rfl, rfl⟩
theorem name_no (n : Int) (w : World) (h : n < 1 ∨ 27 < n) (h0 : 0 ≤ n) (h2 : n < 256) : Calls Tryd.prog 11 #[.int .u8 n] w fun e w' => e = .returned (.tuple #[.string ⟨#[]⟩, .bool false]) ∧ w = w' := by
  go_enter Tryd.func11, Tryd.ntmps11
  go_wp2_with (go_at_call 15; refine (known_no _ _ h h0 h2).mono ?_; rintro e w' ⟨rfl, rfl⟩)
  go_ret2
  exact ⟨rfl, rfl⟩
theorem shape_yes (i : Nat) (w : World) (h1 : 1 ≤ i) (h2 : i ≤ 27) (hn : w.cell? ⟨0, i * 2 + 1, none⟩ = some (.string (shapeB i))) : Calls Tryd.prog 13 #[.int .u8 (i : Int)] w fun e w' => e = .returned (.tuple #[.string (shapeB i), .bool true]) ∧ w = w' := by
  go_enter Tryd.func13, Tryd.ntmps13
  go_wp2_with (go_at_call 15; refine (known_yes _ _ (by omega) (by omega)).mono ?_; rintro e w' ⟨rfl, rfl⟩)
  go_ret2
  exact ⟨rfl, rfl⟩
theorem shape_no (n : Int) (w : World) (h : n < 1 ∨ 27 < n) (h0 : 0 ≤ n) (h2 : n < 256) : Calls Tryd.prog 13 #[.int .u8 n] w fun e w' => e = .returned (.tuple #[.string ⟨#[]⟩, .bool false]) ∧ w = w' := by
  go_enter Tryd.func13, Tryd.ntmps13
  go_wp2_with (go_at_call 15; refine (known_no _ _ h h0 h2).mono ?_; rintro e w' ⟨rfl, rfl⟩)
  go_ret2
  exact ⟨rfl, rfl⟩
theorem rnames (w : World) : Calls Tryd.prog 30 #[] w fun e w' => e = .returned (.slice (some ⟨w.heap.size, 0, none⟩) 28 28) ∧ w' = w.alloc (.cells (opNames.map fun l => Value.string ⟨l.toArray⟩).toArray 9) := by
  go_enter Tryd.func30, Tryd.ntmps30
  go_wp2
  go_ret
  exact ⟨rfl, rfl⟩
theorem rshapes (w : World) : Calls Tryd.prog 31 #[] w fun e w' => e = .returned (.slice (some ⟨w.heap.size, 0, none⟩) 28 28) ∧ w' = w.alloc (.cells (opShapes.map fun l => Value.string ⟨l.toArray⟩).toArray 9) := by
  go_enter Tryd.func31, Tryd.ntmps31
  go_wp2
  go_ret
  exact ⟨rfl, rfl⟩

def nameCells : Array Value := (opNames.map fun l => Value.string ⟨l.toArray⟩).toArray
def shapeCells : Array Value := (opShapes.map fun l => Value.string ⟨l.toArray⟩).toArray
theorem nameCells_at (i : Nat) (h : i < 28) : nameCells[i]? = some (.string (nameB i)) := by
  have : ∀ i, i < 28 → nameCells[i]? = some (.string (nameB i)) := by
    intro i h
    unfold nameCells nameB
    simp [List.getElem?_map, List.getD, List.getElem?_eq_getElem (show i < opNames.length from h)]
  exact this i h
theorem shapeCells_at (i : Nat) (h : i < 28) : shapeCells[i]? = some (.string (shapeB i)) := by
  unfold shapeCells shapeB
  simp [List.getElem?_map, List.getD, List.getElem?_eq_getElem (show i < opShapes.length from h)]
theorem new_cell (w : World) (cs : Array Value) (t : TypeId) (i : Nat) (v : Value) (h : cs[i]? = some v) : (w.alloc (.cells cs t)).cell? ⟨w.heap.size, i, none⟩ = some v := by
  simp [World.cell?_alloc_new, h]
theorem rname_yes (i : Nat) (w : World) (h1 : 1 ≤ i) (h2 : i ≤ 27) : Calls Tryd.prog 12 #[.int .u8 (i : Int)] w fun e w' => e = .returned (.tuple #[.string (nameB i), .bool true]) ∧ w' = w.alloc (.cells nameCells 9) := by
  have hc := new_cell w nameCells 9 i _ (nameCells_at i (by omega))
  go_enter Tryd.func12, Tryd.ntmps12
  go_wp2_with (first | (go_at_call 16; refine (rknown_yes _ _ (by omega) (by omega)).mono ?_; rintro e w' ⟨rfl, rfl⟩) | (go_at_call 30; refine (rnames _).mono ?_; rintro e w' ⟨rfl, rfl⟩; rw [← nameCells]))
  go_ret2
  exact ⟨rfl, rfl⟩
theorem rshape_yes (i : Nat) (w : World) (h1 : 1 ≤ i) (h2 : i ≤ 27) : Calls Tryd.prog 14 #[.int .u8 (i : Int)] w fun e w' => e = .returned (.tuple #[.string (shapeB i), .bool true]) ∧ w' = w.alloc (.cells shapeCells 9) := by
  have hc := new_cell w shapeCells 9 i _ (shapeCells_at i (by omega))
  go_enter Tryd.func14, Tryd.ntmps14
  go_wp2_with (first | (go_at_call 16; refine (rknown_yes _ _ (by omega) (by omega)).mono ?_; rintro e w' ⟨rfl, rfl⟩) | (go_at_call 31; refine (rshapes _).mono ?_; rintro e w' ⟨rfl, rfl⟩; rw [← shapeCells]))
  go_ret2
  exact ⟨rfl, rfl⟩
theorem rname_no (n : Int) (w : World) (h : n < 1 ∨ 27 < n) (h0 : 0 ≤ n) (h2 : n < 256) : Calls Tryd.prog 12 #[.int .u8 n] w fun e w' => e = .returned (.tuple #[.string ⟨#[]⟩, .bool false]) ∧ w = w' := by
  go_enter Tryd.func12, Tryd.ntmps12
  go_wp2_with (go_at_call 16; refine (rknown_no _ _ h h0 h2).mono ?_; rintro e w' ⟨rfl, rfl⟩)
  go_ret2
  exact ⟨rfl, rfl⟩
theorem rshape_no (n : Int) (w : World) (h : n < 1 ∨ 27 < n) (h0 : 0 ≤ n) (h2 : n < 256) : Calls Tryd.prog 14 #[.int .u8 n] w fun e w' => e = .returned (.tuple #[.string ⟨#[]⟩, .bool false]) ∧ w = w' := by
  go_enter Tryd.func14, Tryd.ntmps14
  go_wp2_with (go_at_call 16; refine (rknown_no _ _ h h0 h2).mono ?_; rintro e w' ⟨rfl, rfl⟩)
  go_ret2
  exact ⟨rfl, rfl⟩
end Go.Proofs.YtcbhkeinmdobhaaDoor

namespace Go.Proofs.YtcbhkeinmdobhaaDoor
open Go.ChangeShapes Go.WideShapes Go.ChangeAt Go.RowKit
set_option linter.unusedVariables false
set_option linter.unusedSimpArgs false

def regOk (named : Bool) (r : Int) : Bool := if named then decide (r < 16) else decide (r = 0)
def hasB (l : List UInt8) (ch : Int) : Bool := l.any fun x => decide ((x.toNat : Int) = ch)
def legalS (shp : List UInt8) (a b c n : Int) : Bool := regOk (hasB shp 97) a && (regOk (hasB shp 98) b && (regOk (hasB shp 99) c && (hasB shp 110 || (hasB shp 112 || decide (n = 0)))))
abbrev ins (op a b c n : Int) : Value := .agg #[.int .u8 op, .int .u8 a, .int .u8 b, .int .u8 c, .int .i32 n]

theorem field_a (g : Nat) (w : World) : Calls Tryd.prog 32 #[.pointer (some ⟨g, 0, none⟩), .int .u8 97] w fun e w' => e = .returned (.pointer (some ⟨g, 1, none⟩)) ∧ w = w' := by
  go_enter Tryd.func32, Tryd.ntmps32
  go_wp2
  go_ret
  exact ⟨rfl, rfl⟩
theorem field_b (g : Nat) (w : World) : Calls Tryd.prog 32 #[.pointer (some ⟨g, 0, none⟩), .int .u8 98] w fun e w' => e = .returned (.pointer (some ⟨g, 2, none⟩)) ∧ w = w' := by
  go_enter Tryd.func32, Tryd.ntmps32
  go_wp2
  go_ret
  exact ⟨rfl, rfl⟩
theorem field_c (g : Nat) (w : World) : Calls Tryd.prog 32 #[.pointer (some ⟨g, 0, none⟩), .int .u8 99] w fun e w' => e = .returned (.pointer (some ⟨g, 3, none⟩)) ∧ w = w' := by
  go_enter Tryd.func32, Tryd.ntmps32
  go_wp2
  go_ret
  exact ⟨rfl, rfl⟩
theorem field_n (g : Nat) (w : World) : Calls Tryd.prog 32 #[.pointer (some ⟨g, 0, none⟩), .int .u8 110] w fun e w' => e = .returned (.pointer none) ∧ w = w' := by
  go_enter Tryd.func32, Tryd.ntmps32
  go_wp2
  go_ret
  exact ⟨rfl, rfl⟩
theorem field_p (g : Nat) (w : World) : Calls Tryd.prog 32 #[.pointer (some ⟨g, 0, none⟩), .int .u8 112] w fun e w' => e = .returned (.pointer none) ∧ w = w' := by
  go_enter Tryd.func32, Tryd.ntmps32
  go_wp2
  go_ret
  exact ⟨rfl, rfl⟩

set_option maxHeartbeats 1000000 in
theorem legal_none (i : Nat) (a b c n : Int) (w : World) (h1 : 1 ≤ i) (h2 : i ≤ 27) (hs : shapeB i = ⟨#[]⟩) (ha : 0 ≤ a) (hb : 0 ≤ b) (hc : 0 ≤ c) (hn : w.cell? ⟨0, i * 2 + 1, none⟩ = some (.string (shapeB i))) (hz : 0 < w.heap.size) :
    Calls Tryd.prog 25 #[ins i a b c n] w fun e w' => e = .returned (.bool (legalS [] a b c n)) ∧ Below w.heap.size w w' := by
  have hn' : (w.alloc (.cells #[.int .u8 i, .int .u8 a, .int .u8 b, .int .u8 c, .int .i32 n] 26)).cell? ⟨0, i * 2 + 1, none⟩ = some (.string (shapeB i)) := by
    rw [(((Below.refl w.heap.size w).alloc (Nat.le_refl _) _).cell (p := ⟨0, i * 2 + 1, none⟩) hz)]; exact hn
  have HS := Lib.hid hs
  clear hs hn
  all_goals
    go_enter Tryd.func25, Tryd.ntmps25
    go_wp2_with (first | (go_at_call 13; refine (shape_yes i _ h1 h2 hn').mono ?_; rintro e w' ⟨rfl, rfl⟩; rw [HS.out]) | (go_at_call_of 32 (Value.int .u8 97); refine (field_a _ _).mono ?_; rintro e w' ⟨rfl, rfl⟩)| (go_at_call_of 32 (Value.int .u8 98); refine (field_b _ _).mono ?_; rintro e w' ⟨rfl, rfl⟩)| (go_at_call_of 32 (Value.int .u8 99); refine (field_c _ _).mono ?_; rintro e w' ⟨rfl, rfl⟩)| (go_at_call_of 32 (Value.int .u8 110); refine (field_n _ _).mono ?_; rintro e w' ⟨rfl, rfl⟩)| (go_at_call_of 32 (Value.int .u8 112); refine (field_p _ _).mono ?_; rintro e w' ⟨rfl, rfl⟩))
  all_goals
    refine wp_loop_rounds 1 ?_
    repeat any_goals (rw [rounds_succ]; go_wp2_with (first | (go_at_call 13; refine (shape_yes i _ h1 h2 hn').mono ?_; rintro e w' ⟨rfl, rfl⟩; rw [HS.out]) | (go_at_call_of 32 (Value.int .u8 97); refine (field_a _ _).mono ?_; rintro e w' ⟨rfl, rfl⟩)| (go_at_call_of 32 (Value.int .u8 98); refine (field_b _ _).mono ?_; rintro e w' ⟨rfl, rfl⟩)| (go_at_call_of 32 (Value.int .u8 99); refine (field_c _ _).mono ?_; rintro e w' ⟨rfl, rfl⟩)| (go_at_call_of 32 (Value.int .u8 110); refine (field_n _ _).mono ?_; rintro e w' ⟨rfl, rfl⟩)| (go_at_call_of 32 (Value.int .u8 112); refine (field_p _ _).mono ?_; rintro e w' ⟨rfl, rfl⟩)))
  all_goals go_ret
  all_goals exact ⟨by first | (simp_all [legalS, regOk, hasB]; done) | (simp_all [legalS, regOk, hasB]; omega), by go_grown⟩
set_option maxHeartbeats 1000000 in
theorem legal_an (i : Nat) (a b c n : Int) (w : World) (h1 : 1 ≤ i) (h2 : i ≤ 27) (hs : shapeB i = ⟨#[97, 110]⟩) (ha : 0 ≤ a) (hb : 0 ≤ b) (hc : 0 ≤ c) (hn : w.cell? ⟨0, i * 2 + 1, none⟩ = some (.string (shapeB i))) (hz : 0 < w.heap.size) :
    Calls Tryd.prog 25 #[ins i a b c n] w fun e w' => e = .returned (.bool (legalS [97, 110] a b c n)) ∧ Below w.heap.size w w' := by
  have hn' : (w.alloc (.cells #[.int .u8 i, .int .u8 a, .int .u8 b, .int .u8 c, .int .i32 n] 26)).cell? ⟨0, i * 2 + 1, none⟩ = some (.string (shapeB i)) := by
    rw [(((Below.refl w.heap.size w).alloc (Nat.le_refl _) _).cell (p := ⟨0, i * 2 + 1, none⟩) hz)]; exact hn
  have HS := Lib.hid hs
  clear hs hn
  have E0 : ((⟨#[97, 110]⟩ : ByteArray)[0]'(by decide)).toNat = 97 := rfl
  have E1 : ((⟨#[97, 110]⟩ : ByteArray)[1]'(by decide)).toNat = 110 := rfl
  by_cases qa : a < 16
  all_goals
    go_enter Tryd.func25, Tryd.ntmps25
    go_wp2_with (first | (go_at_call 13; refine (shape_yes i _ h1 h2 hn').mono ?_; rintro e w' ⟨rfl, rfl⟩; rw [HS.out]) | (go_at_call_of 32 (Value.int .u8 97); refine (field_a _ _).mono ?_; rintro e w' ⟨rfl, rfl⟩)| (go_at_call_of 32 (Value.int .u8 98); refine (field_b _ _).mono ?_; rintro e w' ⟨rfl, rfl⟩)| (go_at_call_of 32 (Value.int .u8 99); refine (field_c _ _).mono ?_; rintro e w' ⟨rfl, rfl⟩)| (go_at_call_of 32 (Value.int .u8 110); refine (field_n _ _).mono ?_; rintro e w' ⟨rfl, rfl⟩)| (go_at_call_of 32 (Value.int .u8 112); refine (field_p _ _).mono ?_; rintro e w' ⟨rfl, rfl⟩))
  all_goals
    refine wp_loop_rounds 3 ?_
    repeat any_goals (rw [rounds_succ]; go_wp2_with (first | (go_at_call 13; refine (shape_yes i _ h1 h2 hn').mono ?_; rintro e w' ⟨rfl, rfl⟩; rw [HS.out]) | (go_at_call_of 32 (Value.int .u8 97); refine (field_a _ _).mono ?_; rintro e w' ⟨rfl, rfl⟩)| (go_at_call_of 32 (Value.int .u8 98); refine (field_b _ _).mono ?_; rintro e w' ⟨rfl, rfl⟩)| (go_at_call_of 32 (Value.int .u8 99); refine (field_c _ _).mono ?_; rintro e w' ⟨rfl, rfl⟩)| (go_at_call_of 32 (Value.int .u8 110); refine (field_n _ _).mono ?_; rintro e w' ⟨rfl, rfl⟩)| (go_at_call_of 32 (Value.int .u8 112); refine (field_p _ _).mono ?_; rintro e w' ⟨rfl, rfl⟩)))
  all_goals go_ret
  all_goals exact ⟨by first | (simp_all [legalS, regOk, hasB]; done) | (simp_all [legalS, regOk, hasB]; omega), by go_grown⟩
set_option maxHeartbeats 1000000 in
theorem legal_ab (i : Nat) (a b c n : Int) (w : World) (h1 : 1 ≤ i) (h2 : i ≤ 27) (hs : shapeB i = ⟨#[97, 98]⟩) (ha : 0 ≤ a) (hb : 0 ≤ b) (hc : 0 ≤ c) (hn : w.cell? ⟨0, i * 2 + 1, none⟩ = some (.string (shapeB i))) (hz : 0 < w.heap.size) :
    Calls Tryd.prog 25 #[ins i a b c n] w fun e w' => e = .returned (.bool (legalS [97, 98] a b c n)) ∧ Below w.heap.size w w' := by
  have hn' : (w.alloc (.cells #[.int .u8 i, .int .u8 a, .int .u8 b, .int .u8 c, .int .i32 n] 26)).cell? ⟨0, i * 2 + 1, none⟩ = some (.string (shapeB i)) := by
    rw [(((Below.refl w.heap.size w).alloc (Nat.le_refl _) _).cell (p := ⟨0, i * 2 + 1, none⟩) hz)]; exact hn
  have HS := Lib.hid hs
  clear hs hn
  have E0 : ((⟨#[97, 98]⟩ : ByteArray)[0]'(by decide)).toNat = 97 := rfl
  have E1 : ((⟨#[97, 98]⟩ : ByteArray)[1]'(by decide)).toNat = 98 := rfl
  by_cases qa : a < 16 <;> by_cases qb : b < 16
  all_goals
    go_enter Tryd.func25, Tryd.ntmps25
    go_wp2_with (first | (go_at_call 13; refine (shape_yes i _ h1 h2 hn').mono ?_; rintro e w' ⟨rfl, rfl⟩; rw [HS.out]) | (go_at_call_of 32 (Value.int .u8 97); refine (field_a _ _).mono ?_; rintro e w' ⟨rfl, rfl⟩)| (go_at_call_of 32 (Value.int .u8 98); refine (field_b _ _).mono ?_; rintro e w' ⟨rfl, rfl⟩)| (go_at_call_of 32 (Value.int .u8 99); refine (field_c _ _).mono ?_; rintro e w' ⟨rfl, rfl⟩)| (go_at_call_of 32 (Value.int .u8 110); refine (field_n _ _).mono ?_; rintro e w' ⟨rfl, rfl⟩)| (go_at_call_of 32 (Value.int .u8 112); refine (field_p _ _).mono ?_; rintro e w' ⟨rfl, rfl⟩))
  all_goals
    refine wp_loop_rounds 3 ?_
    repeat any_goals (rw [rounds_succ]; go_wp2_with (first | (go_at_call 13; refine (shape_yes i _ h1 h2 hn').mono ?_; rintro e w' ⟨rfl, rfl⟩; rw [HS.out]) | (go_at_call_of 32 (Value.int .u8 97); refine (field_a _ _).mono ?_; rintro e w' ⟨rfl, rfl⟩)| (go_at_call_of 32 (Value.int .u8 98); refine (field_b _ _).mono ?_; rintro e w' ⟨rfl, rfl⟩)| (go_at_call_of 32 (Value.int .u8 99); refine (field_c _ _).mono ?_; rintro e w' ⟨rfl, rfl⟩)| (go_at_call_of 32 (Value.int .u8 110); refine (field_n _ _).mono ?_; rintro e w' ⟨rfl, rfl⟩)| (go_at_call_of 32 (Value.int .u8 112); refine (field_p _ _).mono ?_; rintro e w' ⟨rfl, rfl⟩)))
  all_goals go_ret
  all_goals exact ⟨by first | (simp_all [legalS, regOk, hasB]; done) | (simp_all [legalS, regOk, hasB]; omega), by go_grown⟩
set_option maxHeartbeats 1000000 in
theorem legal_abn (i : Nat) (a b c n : Int) (w : World) (h1 : 1 ≤ i) (h2 : i ≤ 27) (hs : shapeB i = ⟨#[97, 98, 110]⟩) (ha : 0 ≤ a) (hb : 0 ≤ b) (hc : 0 ≤ c) (hn : w.cell? ⟨0, i * 2 + 1, none⟩ = some (.string (shapeB i))) (hz : 0 < w.heap.size) :
    Calls Tryd.prog 25 #[ins i a b c n] w fun e w' => e = .returned (.bool (legalS [97, 98, 110] a b c n)) ∧ Below w.heap.size w w' := by
  have hn' : (w.alloc (.cells #[.int .u8 i, .int .u8 a, .int .u8 b, .int .u8 c, .int .i32 n] 26)).cell? ⟨0, i * 2 + 1, none⟩ = some (.string (shapeB i)) := by
    rw [(((Below.refl w.heap.size w).alloc (Nat.le_refl _) _).cell (p := ⟨0, i * 2 + 1, none⟩) hz)]; exact hn
  have HS := Lib.hid hs
  clear hs hn
  have E0 : ((⟨#[97, 98, 110]⟩ : ByteArray)[0]'(by decide)).toNat = 97 := rfl
  have E1 : ((⟨#[97, 98, 110]⟩ : ByteArray)[1]'(by decide)).toNat = 98 := rfl
  have E2 : ((⟨#[97, 98, 110]⟩ : ByteArray)[2]'(by decide)).toNat = 110 := rfl
  by_cases qa : a < 16 <;> by_cases qb : b < 16
  all_goals
    go_enter Tryd.func25, Tryd.ntmps25
    go_wp2_with (first | (go_at_call 13; refine (shape_yes i _ h1 h2 hn').mono ?_; rintro e w' ⟨rfl, rfl⟩; rw [HS.out]) | (go_at_call_of 32 (Value.int .u8 97); refine (field_a _ _).mono ?_; rintro e w' ⟨rfl, rfl⟩)| (go_at_call_of 32 (Value.int .u8 98); refine (field_b _ _).mono ?_; rintro e w' ⟨rfl, rfl⟩)| (go_at_call_of 32 (Value.int .u8 99); refine (field_c _ _).mono ?_; rintro e w' ⟨rfl, rfl⟩)| (go_at_call_of 32 (Value.int .u8 110); refine (field_n _ _).mono ?_; rintro e w' ⟨rfl, rfl⟩)| (go_at_call_of 32 (Value.int .u8 112); refine (field_p _ _).mono ?_; rintro e w' ⟨rfl, rfl⟩))
  all_goals
    refine wp_loop_rounds 4 ?_
    repeat any_goals (rw [rounds_succ]; go_wp2_with (first | (go_at_call 13; refine (shape_yes i _ h1 h2 hn').mono ?_; rintro e w' ⟨rfl, rfl⟩; rw [HS.out]) | (go_at_call_of 32 (Value.int .u8 97); refine (field_a _ _).mono ?_; rintro e w' ⟨rfl, rfl⟩)| (go_at_call_of 32 (Value.int .u8 98); refine (field_b _ _).mono ?_; rintro e w' ⟨rfl, rfl⟩)| (go_at_call_of 32 (Value.int .u8 99); refine (field_c _ _).mono ?_; rintro e w' ⟨rfl, rfl⟩)| (go_at_call_of 32 (Value.int .u8 110); refine (field_n _ _).mono ?_; rintro e w' ⟨rfl, rfl⟩)| (go_at_call_of 32 (Value.int .u8 112); refine (field_p _ _).mono ?_; rintro e w' ⟨rfl, rfl⟩)))
  all_goals go_ret
  all_goals exact ⟨by first | (simp_all [legalS, regOk, hasB]; done) | (simp_all [legalS, regOk, hasB]; omega), by go_grown⟩
set_option maxHeartbeats 1000000 in
theorem legal_abc (i : Nat) (a b c n : Int) (w : World) (h1 : 1 ≤ i) (h2 : i ≤ 27) (hs : shapeB i = ⟨#[97, 98, 99]⟩) (ha : 0 ≤ a) (hb : 0 ≤ b) (hc : 0 ≤ c) (hn : w.cell? ⟨0, i * 2 + 1, none⟩ = some (.string (shapeB i))) (hz : 0 < w.heap.size) :
    Calls Tryd.prog 25 #[ins i a b c n] w fun e w' => e = .returned (.bool (legalS [97, 98, 99] a b c n)) ∧ Below w.heap.size w w' := by
  have hn' : (w.alloc (.cells #[.int .u8 i, .int .u8 a, .int .u8 b, .int .u8 c, .int .i32 n] 26)).cell? ⟨0, i * 2 + 1, none⟩ = some (.string (shapeB i)) := by
    rw [(((Below.refl w.heap.size w).alloc (Nat.le_refl _) _).cell (p := ⟨0, i * 2 + 1, none⟩) hz)]; exact hn
  have HS := Lib.hid hs
  clear hs hn
  have E0 : ((⟨#[97, 98, 99]⟩ : ByteArray)[0]'(by decide)).toNat = 97 := rfl
  have E1 : ((⟨#[97, 98, 99]⟩ : ByteArray)[1]'(by decide)).toNat = 98 := rfl
  have E2 : ((⟨#[97, 98, 99]⟩ : ByteArray)[2]'(by decide)).toNat = 99 := rfl
  by_cases qa : a < 16 <;> by_cases qb : b < 16 <;> by_cases qc : c < 16
  all_goals
    go_enter Tryd.func25, Tryd.ntmps25
    go_wp2_with (first | (go_at_call 13; refine (shape_yes i _ h1 h2 hn').mono ?_; rintro e w' ⟨rfl, rfl⟩; rw [HS.out]) | (go_at_call_of 32 (Value.int .u8 97); refine (field_a _ _).mono ?_; rintro e w' ⟨rfl, rfl⟩)| (go_at_call_of 32 (Value.int .u8 98); refine (field_b _ _).mono ?_; rintro e w' ⟨rfl, rfl⟩)| (go_at_call_of 32 (Value.int .u8 99); refine (field_c _ _).mono ?_; rintro e w' ⟨rfl, rfl⟩)| (go_at_call_of 32 (Value.int .u8 110); refine (field_n _ _).mono ?_; rintro e w' ⟨rfl, rfl⟩)| (go_at_call_of 32 (Value.int .u8 112); refine (field_p _ _).mono ?_; rintro e w' ⟨rfl, rfl⟩))
  all_goals
    refine wp_loop_rounds 4 ?_
    repeat any_goals (rw [rounds_succ]; go_wp2_with (first | (go_at_call 13; refine (shape_yes i _ h1 h2 hn').mono ?_; rintro e w' ⟨rfl, rfl⟩; rw [HS.out]) | (go_at_call_of 32 (Value.int .u8 97); refine (field_a _ _).mono ?_; rintro e w' ⟨rfl, rfl⟩)| (go_at_call_of 32 (Value.int .u8 98); refine (field_b _ _).mono ?_; rintro e w' ⟨rfl, rfl⟩)| (go_at_call_of 32 (Value.int .u8 99); refine (field_c _ _).mono ?_; rintro e w' ⟨rfl, rfl⟩)| (go_at_call_of 32 (Value.int .u8 110); refine (field_n _ _).mono ?_; rintro e w' ⟨rfl, rfl⟩)| (go_at_call_of 32 (Value.int .u8 112); refine (field_p _ _).mono ?_; rintro e w' ⟨rfl, rfl⟩)))
  all_goals go_ret
  all_goals exact ⟨by first | (simp_all [legalS, regOk, hasB]; done) | (simp_all [legalS, regOk, hasB]; omega), by go_grown⟩
set_option maxHeartbeats 1000000 in
theorem legal_p (i : Nat) (a b c n : Int) (w : World) (h1 : 1 ≤ i) (h2 : i ≤ 27) (hs : shapeB i = ⟨#[112]⟩) (ha : 0 ≤ a) (hb : 0 ≤ b) (hc : 0 ≤ c) (hn : w.cell? ⟨0, i * 2 + 1, none⟩ = some (.string (shapeB i))) (hz : 0 < w.heap.size) :
    Calls Tryd.prog 25 #[ins i a b c n] w fun e w' => e = .returned (.bool (legalS [112] a b c n)) ∧ Below w.heap.size w w' := by
  have hn' : (w.alloc (.cells #[.int .u8 i, .int .u8 a, .int .u8 b, .int .u8 c, .int .i32 n] 26)).cell? ⟨0, i * 2 + 1, none⟩ = some (.string (shapeB i)) := by
    rw [(((Below.refl w.heap.size w).alloc (Nat.le_refl _) _).cell (p := ⟨0, i * 2 + 1, none⟩) hz)]; exact hn
  have HS := Lib.hid hs
  clear hs hn
  have E0 : ((⟨#[112]⟩ : ByteArray)[0]'(by decide)).toNat = 112 := rfl
  all_goals
    go_enter Tryd.func25, Tryd.ntmps25
    go_wp2_with (first | (go_at_call 13; refine (shape_yes i _ h1 h2 hn').mono ?_; rintro e w' ⟨rfl, rfl⟩; rw [HS.out]) | (go_at_call_of 32 (Value.int .u8 97); refine (field_a _ _).mono ?_; rintro e w' ⟨rfl, rfl⟩)| (go_at_call_of 32 (Value.int .u8 98); refine (field_b _ _).mono ?_; rintro e w' ⟨rfl, rfl⟩)| (go_at_call_of 32 (Value.int .u8 99); refine (field_c _ _).mono ?_; rintro e w' ⟨rfl, rfl⟩)| (go_at_call_of 32 (Value.int .u8 110); refine (field_n _ _).mono ?_; rintro e w' ⟨rfl, rfl⟩)| (go_at_call_of 32 (Value.int .u8 112); refine (field_p _ _).mono ?_; rintro e w' ⟨rfl, rfl⟩))
  all_goals
    refine wp_loop_rounds 2 ?_
    repeat any_goals (rw [rounds_succ]; go_wp2_with (first | (go_at_call 13; refine (shape_yes i _ h1 h2 hn').mono ?_; rintro e w' ⟨rfl, rfl⟩; rw [HS.out]) | (go_at_call_of 32 (Value.int .u8 97); refine (field_a _ _).mono ?_; rintro e w' ⟨rfl, rfl⟩)| (go_at_call_of 32 (Value.int .u8 98); refine (field_b _ _).mono ?_; rintro e w' ⟨rfl, rfl⟩)| (go_at_call_of 32 (Value.int .u8 99); refine (field_c _ _).mono ?_; rintro e w' ⟨rfl, rfl⟩)| (go_at_call_of 32 (Value.int .u8 110); refine (field_n _ _).mono ?_; rintro e w' ⟨rfl, rfl⟩)| (go_at_call_of 32 (Value.int .u8 112); refine (field_p _ _).mono ?_; rintro e w' ⟨rfl, rfl⟩)))
  all_goals go_ret
  all_goals exact ⟨by first | (simp_all [legalS, regOk, hasB]; done) | (simp_all [legalS, regOk, hasB]; omega), by go_grown⟩
set_option maxHeartbeats 1000000 in
theorem legal_ap (i : Nat) (a b c n : Int) (w : World) (h1 : 1 ≤ i) (h2 : i ≤ 27) (hs : shapeB i = ⟨#[97, 112]⟩) (ha : 0 ≤ a) (hb : 0 ≤ b) (hc : 0 ≤ c) (hn : w.cell? ⟨0, i * 2 + 1, none⟩ = some (.string (shapeB i))) (hz : 0 < w.heap.size) :
    Calls Tryd.prog 25 #[ins i a b c n] w fun e w' => e = .returned (.bool (legalS [97, 112] a b c n)) ∧ Below w.heap.size w w' := by
  have hn' : (w.alloc (.cells #[.int .u8 i, .int .u8 a, .int .u8 b, .int .u8 c, .int .i32 n] 26)).cell? ⟨0, i * 2 + 1, none⟩ = some (.string (shapeB i)) := by
    rw [(((Below.refl w.heap.size w).alloc (Nat.le_refl _) _).cell (p := ⟨0, i * 2 + 1, none⟩) hz)]; exact hn
  have HS := Lib.hid hs
  clear hs hn
  have E0 : ((⟨#[97, 112]⟩ : ByteArray)[0]'(by decide)).toNat = 97 := rfl
  have E1 : ((⟨#[97, 112]⟩ : ByteArray)[1]'(by decide)).toNat = 112 := rfl
  by_cases qa : a < 16
  all_goals
    go_enter Tryd.func25, Tryd.ntmps25
    go_wp2_with (first | (go_at_call 13; refine (shape_yes i _ h1 h2 hn').mono ?_; rintro e w' ⟨rfl, rfl⟩; rw [HS.out]) | (go_at_call_of 32 (Value.int .u8 97); refine (field_a _ _).mono ?_; rintro e w' ⟨rfl, rfl⟩)| (go_at_call_of 32 (Value.int .u8 98); refine (field_b _ _).mono ?_; rintro e w' ⟨rfl, rfl⟩)| (go_at_call_of 32 (Value.int .u8 99); refine (field_c _ _).mono ?_; rintro e w' ⟨rfl, rfl⟩)| (go_at_call_of 32 (Value.int .u8 110); refine (field_n _ _).mono ?_; rintro e w' ⟨rfl, rfl⟩)| (go_at_call_of 32 (Value.int .u8 112); refine (field_p _ _).mono ?_; rintro e w' ⟨rfl, rfl⟩))
  all_goals
    refine wp_loop_rounds 3 ?_
    repeat any_goals (rw [rounds_succ]; go_wp2_with (first | (go_at_call 13; refine (shape_yes i _ h1 h2 hn').mono ?_; rintro e w' ⟨rfl, rfl⟩; rw [HS.out]) | (go_at_call_of 32 (Value.int .u8 97); refine (field_a _ _).mono ?_; rintro e w' ⟨rfl, rfl⟩)| (go_at_call_of 32 (Value.int .u8 98); refine (field_b _ _).mono ?_; rintro e w' ⟨rfl, rfl⟩)| (go_at_call_of 32 (Value.int .u8 99); refine (field_c _ _).mono ?_; rintro e w' ⟨rfl, rfl⟩)| (go_at_call_of 32 (Value.int .u8 110); refine (field_n _ _).mono ?_; rintro e w' ⟨rfl, rfl⟩)| (go_at_call_of 32 (Value.int .u8 112); refine (field_p _ _).mono ?_; rintro e w' ⟨rfl, rfl⟩)))
  all_goals go_ret
  all_goals exact ⟨by first | (simp_all [legalS, regOk, hasB]; done) | (simp_all [legalS, regOk, hasB]; omega), by go_grown⟩
set_option maxHeartbeats 1000000 in
theorem legal_a (i : Nat) (a b c n : Int) (w : World) (h1 : 1 ≤ i) (h2 : i ≤ 27) (hs : shapeB i = ⟨#[97]⟩) (ha : 0 ≤ a) (hb : 0 ≤ b) (hc : 0 ≤ c) (hn : w.cell? ⟨0, i * 2 + 1, none⟩ = some (.string (shapeB i))) (hz : 0 < w.heap.size) :
    Calls Tryd.prog 25 #[ins i a b c n] w fun e w' => e = .returned (.bool (legalS [97] a b c n)) ∧ Below w.heap.size w w' := by
  have hn' : (w.alloc (.cells #[.int .u8 i, .int .u8 a, .int .u8 b, .int .u8 c, .int .i32 n] 26)).cell? ⟨0, i * 2 + 1, none⟩ = some (.string (shapeB i)) := by
    rw [(((Below.refl w.heap.size w).alloc (Nat.le_refl _) _).cell (p := ⟨0, i * 2 + 1, none⟩) hz)]; exact hn
  have HS := Lib.hid hs
  clear hs hn
  have E0 : ((⟨#[97]⟩ : ByteArray)[0]'(by decide)).toNat = 97 := rfl
  by_cases qa : a < 16
  all_goals
    go_enter Tryd.func25, Tryd.ntmps25
    go_wp2_with (first | (go_at_call 13; refine (shape_yes i _ h1 h2 hn').mono ?_; rintro e w' ⟨rfl, rfl⟩; rw [HS.out]) | (go_at_call_of 32 (Value.int .u8 97); refine (field_a _ _).mono ?_; rintro e w' ⟨rfl, rfl⟩)| (go_at_call_of 32 (Value.int .u8 98); refine (field_b _ _).mono ?_; rintro e w' ⟨rfl, rfl⟩)| (go_at_call_of 32 (Value.int .u8 99); refine (field_c _ _).mono ?_; rintro e w' ⟨rfl, rfl⟩)| (go_at_call_of 32 (Value.int .u8 110); refine (field_n _ _).mono ?_; rintro e w' ⟨rfl, rfl⟩)| (go_at_call_of 32 (Value.int .u8 112); refine (field_p _ _).mono ?_; rintro e w' ⟨rfl, rfl⟩))
  all_goals
    refine wp_loop_rounds 2 ?_
    repeat any_goals (rw [rounds_succ]; go_wp2_with (first | (go_at_call 13; refine (shape_yes i _ h1 h2 hn').mono ?_; rintro e w' ⟨rfl, rfl⟩; rw [HS.out]) | (go_at_call_of 32 (Value.int .u8 97); refine (field_a _ _).mono ?_; rintro e w' ⟨rfl, rfl⟩)| (go_at_call_of 32 (Value.int .u8 98); refine (field_b _ _).mono ?_; rintro e w' ⟨rfl, rfl⟩)| (go_at_call_of 32 (Value.int .u8 99); refine (field_c _ _).mono ?_; rintro e w' ⟨rfl, rfl⟩)| (go_at_call_of 32 (Value.int .u8 110); refine (field_n _ _).mono ?_; rintro e w' ⟨rfl, rfl⟩)| (go_at_call_of 32 (Value.int .u8 112); refine (field_p _ _).mono ?_; rintro e w' ⟨rfl, rfl⟩)))
  all_goals go_ret
  all_goals exact ⟨by first | (simp_all [legalS, regOk, hasB]; done) | (simp_all [legalS, regOk, hasB]; omega), by go_grown⟩
set_option maxHeartbeats 1000000 in
theorem legal_n (i : Nat) (a b c n : Int) (w : World) (h1 : 1 ≤ i) (h2 : i ≤ 27) (hs : shapeB i = ⟨#[110]⟩) (ha : 0 ≤ a) (hb : 0 ≤ b) (hc : 0 ≤ c) (hn : w.cell? ⟨0, i * 2 + 1, none⟩ = some (.string (shapeB i))) (hz : 0 < w.heap.size) :
    Calls Tryd.prog 25 #[ins i a b c n] w fun e w' => e = .returned (.bool (legalS [110] a b c n)) ∧ Below w.heap.size w w' := by
  have hn' : (w.alloc (.cells #[.int .u8 i, .int .u8 a, .int .u8 b, .int .u8 c, .int .i32 n] 26)).cell? ⟨0, i * 2 + 1, none⟩ = some (.string (shapeB i)) := by
    rw [(((Below.refl w.heap.size w).alloc (Nat.le_refl _) _).cell (p := ⟨0, i * 2 + 1, none⟩) hz)]; exact hn
  have HS := Lib.hid hs
  clear hs hn
  have E0 : ((⟨#[110]⟩ : ByteArray)[0]'(by decide)).toNat = 110 := rfl
  all_goals
    go_enter Tryd.func25, Tryd.ntmps25
    go_wp2_with (first | (go_at_call 13; refine (shape_yes i _ h1 h2 hn').mono ?_; rintro e w' ⟨rfl, rfl⟩; rw [HS.out]) | (go_at_call_of 32 (Value.int .u8 97); refine (field_a _ _).mono ?_; rintro e w' ⟨rfl, rfl⟩)| (go_at_call_of 32 (Value.int .u8 98); refine (field_b _ _).mono ?_; rintro e w' ⟨rfl, rfl⟩)| (go_at_call_of 32 (Value.int .u8 99); refine (field_c _ _).mono ?_; rintro e w' ⟨rfl, rfl⟩)| (go_at_call_of 32 (Value.int .u8 110); refine (field_n _ _).mono ?_; rintro e w' ⟨rfl, rfl⟩)| (go_at_call_of 32 (Value.int .u8 112); refine (field_p _ _).mono ?_; rintro e w' ⟨rfl, rfl⟩))
  all_goals
    refine wp_loop_rounds 2 ?_
    repeat any_goals (rw [rounds_succ]; go_wp2_with (first | (go_at_call 13; refine (shape_yes i _ h1 h2 hn').mono ?_; rintro e w' ⟨rfl, rfl⟩; rw [HS.out]) | (go_at_call_of 32 (Value.int .u8 97); refine (field_a _ _).mono ?_; rintro e w' ⟨rfl, rfl⟩)| (go_at_call_of 32 (Value.int .u8 98); refine (field_b _ _).mono ?_; rintro e w' ⟨rfl, rfl⟩)| (go_at_call_of 32 (Value.int .u8 99); refine (field_c _ _).mono ?_; rintro e w' ⟨rfl, rfl⟩)| (go_at_call_of 32 (Value.int .u8 110); refine (field_n _ _).mono ?_; rintro e w' ⟨rfl, rfl⟩)| (go_at_call_of 32 (Value.int .u8 112); refine (field_p _ _).mono ?_; rintro e w' ⟨rfl, rfl⟩)))
  all_goals go_ret
  all_goals exact ⟨by first | (simp_all [legalS, regOk, hasB]; done) | (simp_all [legalS, regOk, hasB]; omega), by go_grown⟩
end Go.Proofs.YtcbhkeinmdobhaaDoor

/- A region that draws its order, whose operations read what is below a mark and whose calls make memory above it: one walk in the order of the text. -/
namespace Go.Proofs.YtcbhkeinmdobhaaDoor.Float
open Go.RowKit
set_option linter.unusedVariables false

theorem wp_region_below {P : Program} {id : Nat} {Q : Exit → Act → World → Prop} {a : Act} {w : World} {l : List Oper} (hm : P.follows .mixedOrders = true) (hB : Region.lexB .any l.toArray = true)
    (h : wpQuiet P l.toArray (fun w' => Below w.heap.size w w') (fun a' => ∀ w', Below w.heap.size w w' → Q .normal a' w') l a) : (Code.region id l.toArray true).wp P Q a w :=
  wp_region_quiet (C := fun w' => Below w.heap.size w w') hm hB ((Below.refl _ _).drew) (by simpa using h)

section
variable {P : Program} {ops : Array Oper} {C : World → Prop} {Q : Act → Prop} {a : Act} {o : Oper} {rest : List Oper}
/-- one operation that is wanted: its value, in every world of the class -/
theorem step {v : Value} (hw : Region.wanted o (yielded ops a.tmps) = true) (h : ∀ w', C w' → o.quietAt P a C w' v) (hk : wpQuiet P ops C Q rest (a.put o.dst v)) : wpQuiet P ops C Q (o :: rest) a :=
  BigFrame.wpQuiet_want hw fun K hK => ⟨v, h, hK _ hk⟩
theorem step_ex (hw : Region.wanted o (yielded ops a.tmps) = true) (h : ∃ v, (∀ w', C w' → o.quietAt P a C w' v) ∧ wpQuiet P ops C Q rest (a.put o.dst v)) : wpQuiet P ops C Q (o :: rest) a :=
  let ⟨_, h1, h2⟩ := h
  step hw h1 h2
theorem skip (hw : Region.wanted o (yielded ops a.tmps) = false) (hk : wpQuiet P ops C Q rest (a.put o.dst undef)) : wpQuiet P ops C Q (o :: rest) a :=
  BigFrame.wpQuiet_skip hw hk
theorem value_at {v : Value} {w' : World} (h : (execOp a.eval o).run P w' = .ok (.value v) w') : o.quietAt P a C w' v := by
  unfold Oper.quietAt
  rw [h]
  exact ⟨rfl, rfl⟩
theorem call_at {v : Value} {w' : World} {f : FuncId} {args : Array Value} (h : (execOp a.eval o).run P w' = .ok (.enter f args) w') (hc : Calls P f args w' fun e w'' => e = .returned v ∧ C w'') : o.quietAt P a C w' v := by
  unfold Oper.quietAt
  rw [h]
  exact ⟨rfl, hc⟩
end
end Go.Proofs.YtcbhkeinmdobhaaDoor.Float

namespace Go.Proofs.YtcbhkeinmdobhaaDoor
open Go.ChangeShapes Go.WideShapes Go.ChangeAt Go.RowKit
set_option linter.unusedVariables false
set_option linter.unusedSimpArgs false

theorem has_take (s : ByteArray) (ch : Int) (k : Nat) (h : k < s.size) : hasB (s.data.toList.take (k + 1)) ch = (hasB (s.data.toList.take k) ch || decide ((s[k].toNat : Int) = ch)) := by
  unfold hasB
  rw [List.take_succ_eq_append_getElem (by simpa using h), List.any_append]
  simp
  rfl
theorem has_whole (s : ByteArray) (ch : Int) (k : Nat) (h : k < s.size) (hk : (s[k].toNat : Int) = ch) : hasB s.data.toList ch = true := by
  unfold hasB
  rw [List.any_eq_true]
  exact ⟨s[k], by simp [ByteArray.getElem_eq_getElem_data], by simpa using hk⟩

theorem has_any (s : ByteArray) (ch : Int) (w : World) (hs : s.size ≤ 100) : Calls Tryd.prog 36 #[.string s, .int .u8 ch] w fun e w' => e = .returned (.bool (hasB s.data.toList ch)) ∧ w = w' := by
  go_enter Tryd.func36, Tryd.ntmps36
  go_wp2
  go_loop [5] (fun i => ∃ k : Nat, k ≤ s.size ∧ i = .int .i64 k ∧ hasB (s.data.toList.take k) ch = false) (fun i => s.size - (intOf i).toNat)
  case atStart => exact ⟨0, Nat.zero_le _, rfl, rfl⟩
  case round =>
    obtain ⟨k, hk, rfl, hn⟩ := hrel
    have HN := Lib.hid hn
    clear hn
    by_cases hlt : k < s.size
    · have HT := Lib.hid (has_take s ch k hlt)
      by_cases hq : (s[k].toNat : Int) = ch
      · have HQ := Lib.hid hq
        have hb : ((s[k].toNat : Int) == ch) = true := by simpa using hq
        clear hq
        go_wp2
        go_ret
        exact ⟨by rw [has_whole s ch k hlt HQ.out]; rfl, rfl⟩
      · have HQ := Lib.hid hq
        have hb : ((s[k].toNat : Int) == ch) = false := by simpa using hq
        clear hq
        go_wp2
        go_round
        case rel => exact ⟨k + 1, by omega, by go_num, by rw [HT.out, HN.out]; simpa using HQ.out⟩
        case measure => simp [intOf]; omega
    · have hk' : k = s.size := by omega
      have HK := Lib.hid hk'
      clear hk'
      go_wp2
      go_ret
      refine ⟨?_, rfl⟩
      have h := HN.out
      rw [HK.out, List.take_of_length_le (by simp)] at h
      rw [h]
      rfl
theorem register_yes (r : Int) (w : World) : Calls Tryd.prog 37 #[.int .u8 r, .bool true] w fun e w' => e = .returned (.bool (decide (r ≤ 15))) ∧ w = w' := by
  go_enter Tryd.func37, Tryd.ntmps37
  go_wp2
  go_ret
  exact ⟨rfl, rfl⟩
theorem register_no (r : Int) (w : World) : Calls Tryd.prog 37 #[.int .u8 r, .bool false] w fun e w' => e = .returned (.bool (r == 0)) ∧ w = w' := by
  go_enter Tryd.func37, Tryd.ntmps37
  go_wp2
  go_ret
  exact ⟨rfl, rfl⟩
theorem register_any (r : Int) (h : Bool) (w : World) : Calls Tryd.prog 37 #[.int .u8 r, .bool h] w fun e w' => e = .returned (.bool (regOk h r)) ∧ w = w' := by
  cases h
  · exact (register_no r w).mono fun e w' ⟨h1, h2⟩ => ⟨by rw [h1]; simp only [regOk, Bool.false_eq_true, if_false, Ending.returned.injEq, Value.bool.injEq]; rw [Bool.eq_iff_iff]; simp, h2⟩
  · exact (register_yes r w).mono fun e w' ⟨h1, h2⟩ => ⟨by rw [h1]; simp only [regOk, if_true, Ending.returned.injEq, Value.bool.injEq]; rw [Bool.eq_iff_iff]; simp; omega, h2⟩


set_option maxRecDepth 100000 in
set_option maxHeartbeats 2000000 in
theorem rlegal_yes (i : Nat) (a b c n : Int) (w : World) (h1 : 1 ≤ i) (h2 : i ≤ 27) (hsz0 : (shapeB i).size ≤ 100) :
    Calls Tryd.prog 26 #[ins i a b c n] w fun e w' => e = .returned (.bool (legalS (shapeB i).data.toList a b c n)) ∧ Below w.heap.size w w' := by
  obtain ⟨s, hs⟩ : ∃ s, s = shapeB i := ⟨_, rfl⟩
  have HS := Lib.hid hs
  have hsz : s.size ≤ 100 := by rw [hs]; exact hsz0
  rw [← hs]
  clear hs hsz0
  obtain ⟨W, hW⟩ : ∃ W : World, W = (w.alloc (.cells #[.int .u8 i, .int .u8 a, .int .u8 b, .int .u8 c, .int .i32 n] 26)).alloc (.cells shapeCells 9) := ⟨_, rfl⟩
  have HC : ∀ w', Below W.heap.size W w' → w'.cell? ⟨w.heap.size, 0, none⟩ = some (.int .u8 i) ∧ w'.cell? ⟨w.heap.size, 1, none⟩ = some (.int .u8 a) ∧ w'.cell? ⟨w.heap.size, 2, none⟩ = some (.int .u8 b) ∧ w'.cell? ⟨w.heap.size, 3, none⟩ = some (.int .u8 c) ∧ w'.cell? ⟨w.heap.size, 4, none⟩ = some (.int .i32 n) := fun w' h => by
    have h3 : Below (w.alloc (.cells #[.int .u8 i, .int .u8 a, .int .u8 b, .int .u8 c, .int .i32 n] 26)).heap.size (w.alloc (.cells #[.int .u8 i, .int .u8 a, .int .u8 b, .int .u8 c, .int .i32 n] 26)) w' := by
      subst hW
      exact ((Below.refl _ _).alloc (Nat.le_refl _) _).trans (h.mono (by simp))
    refine ⟨?_, ?_, ?_, ?_, ?_⟩ <;> (rw [h3.cell (by simp)]; simp [World.cell?_alloc_new])
  have HB : Below w.heap.size w W := by rw [hW]; exact ((Below.refl _ _).alloc (Nat.le_refl _) _).alloc (by simp) _
  have HW := Lib.hid hW
  clear hW
  rcases hr1 : regOk (hasB s.data.toList 97) a with _ | _
  rotate_left
  rcases hr2 : regOk (hasB s.data.toList 98) b with _ | _
  rotate_left
  rcases hr3 : regOk (hasB s.data.toList 99) c with _ | _
  rotate_left
  · have R1 := Lib.hid hr1
    have R2 := Lib.hid hr2
    have R3 := Lib.hid hr3
    clear hr1 hr2 hr3
    go_enter Tryd.func26, Tryd.ntmps26
    go_wp2_with (go_at_call 14; refine (rshape_yes i _ h1 h2).mono ?_; rintro e w' ⟨rfl, rfl⟩; rw [← HS.out, ← HW.out])
    refine Float.wp_region_below (by kernel_rfl) (by kernel_rfl) ?_
    refine Float.step (v := .bool true) (by rfl) (fun w' hw' => Float.value_at ?_) ?_
    · go_simp
    go_frame
    refine Float.step (v := .bool false) (by rfl) (fun w' hw' => Float.value_at ?_) ?_
    · go_simp
    go_frame
    refine Float.step (v := .bool false) (by rfl) (fun w' hw' => Float.value_at ?_) ?_
    · go_simp
    go_frame
    refine Float.step (v := .pointer (some ⟨w.heap.size, 1, none⟩)) (by rfl) (fun w' hw' => Float.value_at ?_) ?_
    · go_simp
    go_frame
    refine Float.step (v := .int .u8 a) (by rfl) (fun w' hw' => Float.value_at ?_) ?_
    · obtain ⟨y0, y1, y2, y3, y4⟩ := HC w' hw'
      go_simp
    go_frame
    refine Float.step (v := .string s) (by rfl) (fun w' hw' => Float.value_at ?_) ?_
    · go_simp
    go_frame
    refine Float.step (v := .bool (hasB s.data.toList 97)) (by rfl) (fun w' hw' => Float.call_at ?_ ((has_any s 97 w' hsz).mono fun e w'' h2 => ⟨h2.1, h2.2 ▸ hw'⟩)) ?_
    · go_simp
    go_frame
    refine Float.step (v := .bool (regOk (hasB s.data.toList 97) a)) (by rfl) (fun w' hw' => Float.call_at ?_ ((register_any a _ w').mono fun e w'' h2 => ⟨h2.1, h2.2 ▸ hw'⟩)) ?_
    · go_simp
    go_frame
    refine Float.step (v := .bool false) (by rfl) (fun w' hw' => Float.value_at ?_) ?_
    · have q := R1.out
      go_simp
    go_frame
    refine Float.step (v := .bool false) (by rfl) (fun w' hw' => Float.value_at ?_) ?_
    · go_simp
    go_frame
    refine Float.step (v := .bool false) (by rfl) (fun w' hw' => Float.value_at ?_) ?_
    · go_simp
    go_frame
    refine Float.step (v := .pointer (some ⟨w.heap.size, 2, none⟩)) (by rfl) (fun w' hw' => Float.value_at ?_) ?_
    · go_simp
    go_frame
    refine Float.step (v := .int .u8 b) (by rfl) (fun w' hw' => Float.value_at ?_) ?_
    · obtain ⟨y0, y1, y2, y3, y4⟩ := HC w' hw'
      go_simp
    go_frame
    refine Float.step (v := .string s) (by rfl) (fun w' hw' => Float.value_at ?_) ?_
    · go_simp
    go_frame
    refine Float.step (v := .bool (hasB s.data.toList 98)) (by rfl) (fun w' hw' => Float.call_at ?_ ((has_any s 98 w' hsz).mono fun e w'' h2 => ⟨h2.1, h2.2 ▸ hw'⟩)) ?_
    · go_simp
    go_frame
    refine Float.step (v := .bool (regOk (hasB s.data.toList 98) b)) (by rfl) (fun w' hw' => Float.call_at ?_ ((register_any b _ w').mono fun e w'' h2 => ⟨h2.1, h2.2 ▸ hw'⟩)) ?_
    · go_simp
    go_frame
    refine Float.step (v := .bool false) (by rfl) (fun w' hw' => Float.value_at ?_) ?_
    · have q := R2.out
      go_simp
    go_frame
    refine Float.step (v := .bool false) (by rfl) (fun w' hw' => Float.value_at ?_) ?_
    · go_simp
    go_frame
    refine Float.step (v := .bool false) (by rfl) (fun w' hw' => Float.value_at ?_) ?_
    · go_simp
    go_frame
    refine Float.step (v := .pointer (some ⟨w.heap.size, 3, none⟩)) (by rfl) (fun w' hw' => Float.value_at ?_) ?_
    · go_simp
    go_frame
    refine Float.step (v := .int .u8 c) (by rfl) (fun w' hw' => Float.value_at ?_) ?_
    · obtain ⟨y0, y1, y2, y3, y4⟩ := HC w' hw'
      go_simp
    go_frame
    refine Float.step (v := .string s) (by rfl) (fun w' hw' => Float.value_at ?_) ?_
    · go_simp
    go_frame
    refine Float.step (v := .bool (hasB s.data.toList 99)) (by rfl) (fun w' hw' => Float.call_at ?_ ((has_any s 99 w' hsz).mono fun e w'' h2 => ⟨h2.1, h2.2 ▸ hw'⟩)) ?_
    · go_simp
    go_frame
    refine Float.step (v := .bool (regOk (hasB s.data.toList 99) c)) (by rfl) (fun w' hw' => Float.call_at ?_ ((register_any c _ w').mono fun e w'' h2 => ⟨h2.1, h2.2 ▸ hw'⟩)) ?_
    · go_simp
    go_frame
    refine Float.step (v := .bool false) (by rfl) (fun w' hw' => Float.value_at ?_) ?_
    · have q := R3.out
      go_simp
    go_frame
    refine Float.step (v := .bool false) (by rfl) (fun w' hw' => Float.value_at ?_) ?_
    · go_simp
    go_frame
    refine wpQuiet_nil ?_
    intro w4 hB4
    obtain ⟨y0, y1, y2, y3, y4⟩ := HC w4 hB4
    rcases hn1 : hasB s.data.toList 110 with _ | _ <;> rcases hn2 : hasB s.data.toList 112 with _ | _
    all_goals
      have N1 := Lib.hid hn1
      have N2 := Lib.hid hn2
      clear hn1 hn2
      go_wp2_with (first | (go_at_call_of 36 (Value.int .u8 110); refine (has_any s 110 _ hsz).mono ?_; rintro e w' ⟨rfl, rfl⟩; rw [N1.out]) | (go_at_call_of 36 (Value.int .u8 112); refine (has_any s 112 _ hsz).mono ?_; rintro e w' ⟨rfl, rfl⟩; rw [N2.out]))
      go_ret
      exact ⟨by first | (simp [legalS, R1.out, R2.out, R3.out, N1.out, N2.out]; done) | (simp [legalS, R1.out, R2.out, R3.out, N1.out, N2.out]; rw [Bool.eq_iff_iff]; simp), HB.trans (hB4.mono HB.size)⟩
  · have R1 := Lib.hid hr1
    clear hr1
    go_enter Tryd.func26, Tryd.ntmps26
    go_wp2_with (go_at_call 14; refine (rshape_yes i _ h1 h2).mono ?_; rintro e w' ⟨rfl, rfl⟩; rw [← HS.out, ← HW.out])
    refine Float.wp_region_below (by kernel_rfl) (by kernel_rfl) ?_
    refine Float.step (v := .bool true) (by rfl) (fun w' hw' => Float.value_at ?_) ?_
    · go_simp
    go_frame
    refine Float.step (v := .bool false) (by rfl) (fun w' hw' => Float.value_at ?_) ?_
    · go_simp
    go_frame
    refine Float.step (v := .bool false) (by rfl) (fun w' hw' => Float.value_at ?_) ?_
    · go_simp
    go_frame
    refine Float.step (v := .pointer (some ⟨w.heap.size, 1, none⟩)) (by rfl) (fun w' hw' => Float.value_at ?_) ?_
    · go_simp
    go_frame
    refine Float.step (v := .int .u8 a) (by rfl) (fun w' hw' => Float.value_at ?_) ?_
    · obtain ⟨y0, y1, y2, y3, y4⟩ := HC w' hw'
      go_simp
    go_frame
    refine Float.step (v := .string s) (by rfl) (fun w' hw' => Float.value_at ?_) ?_
    · go_simp
    go_frame
    refine Float.step (v := .bool (hasB s.data.toList 97)) (by rfl) (fun w' hw' => Float.call_at ?_ ((has_any s 97 w' hsz).mono fun e w'' h2 => ⟨h2.1, h2.2 ▸ hw'⟩)) ?_
    · go_simp
    go_frame
    refine Float.step (v := .bool (regOk (hasB s.data.toList 97) a)) (by rfl) (fun w' hw' => Float.call_at ?_ ((register_any a _ w').mono fun e w'' h2 => ⟨h2.1, h2.2 ▸ hw'⟩)) ?_
    · go_simp
    go_frame
    refine Float.step (v := .bool true) (by rfl) (fun w' hw' => Float.value_at ?_) ?_
    · have q := R1.out
      go_simp
    go_frame
    refine Float.step (v := .bool true) (by rfl) (fun w' hw' => Float.value_at ?_) ?_
    · go_simp
    go_frame
    refine Float.step (v := .bool true) (by rfl) (fun w' hw' => Float.value_at ?_) ?_
    · go_simp
    go_frame
    refine Float.skip (by rfl) ?_
    go_frame
    refine Float.skip (by rfl) ?_
    go_frame
    refine Float.skip (by rfl) ?_
    go_frame
    refine Float.skip (by rfl) ?_
    go_frame
    refine Float.skip (by rfl) ?_
    go_frame
    refine Float.skip (by rfl) ?_
    go_frame
    refine Float.step (v := .bool true) (by rfl) (fun w' hw' => Float.value_at ?_) ?_
    · go_simp
    go_frame
    refine Float.step (v := .bool true) (by rfl) (fun w' hw' => Float.value_at ?_) ?_
    · go_simp
    go_frame
    refine Float.skip (by rfl) ?_
    go_frame
    refine Float.skip (by rfl) ?_
    go_frame
    refine Float.skip (by rfl) ?_
    go_frame
    refine Float.skip (by rfl) ?_
    go_frame
    refine Float.skip (by rfl) ?_
    go_frame
    refine Float.skip (by rfl) ?_
    go_frame
    refine Float.step (v := .bool true) (by rfl) (fun w' hw' => Float.value_at ?_) ?_
    · go_simp
    go_frame
    refine wpQuiet_nil ?_
    intro w4 hB4
    go_wp2
    go_ret
    exact ⟨by simp [legalS, R1.out], HB.trans (hB4.mono HB.size)⟩
  · have R1 := Lib.hid hr1
    have R2 := Lib.hid hr2
    clear hr1 hr2
    go_enter Tryd.func26, Tryd.ntmps26
    go_wp2_with (go_at_call 14; refine (rshape_yes i _ h1 h2).mono ?_; rintro e w' ⟨rfl, rfl⟩; rw [← HS.out, ← HW.out])
    refine Float.wp_region_below (by kernel_rfl) (by kernel_rfl) ?_
    refine Float.step (v := .bool true) (by rfl) (fun w' hw' => Float.value_at ?_) ?_
    · go_simp
    go_frame
    refine Float.step (v := .bool false) (by rfl) (fun w' hw' => Float.value_at ?_) ?_
    · go_simp
    go_frame
    refine Float.step (v := .bool false) (by rfl) (fun w' hw' => Float.value_at ?_) ?_
    · go_simp
    go_frame
    refine Float.step (v := .pointer (some ⟨w.heap.size, 1, none⟩)) (by rfl) (fun w' hw' => Float.value_at ?_) ?_
    · go_simp
    go_frame
    refine Float.step (v := .int .u8 a) (by rfl) (fun w' hw' => Float.value_at ?_) ?_
    · obtain ⟨y0, y1, y2, y3, y4⟩ := HC w' hw'
      go_simp
    go_frame
    refine Float.step (v := .string s) (by rfl) (fun w' hw' => Float.value_at ?_) ?_
    · go_simp
    go_frame
    refine Float.step (v := .bool (hasB s.data.toList 97)) (by rfl) (fun w' hw' => Float.call_at ?_ ((has_any s 97 w' hsz).mono fun e w'' h2 => ⟨h2.1, h2.2 ▸ hw'⟩)) ?_
    · go_simp
    go_frame
    refine Float.step (v := .bool (regOk (hasB s.data.toList 97) a)) (by rfl) (fun w' hw' => Float.call_at ?_ ((register_any a _ w').mono fun e w'' h2 => ⟨h2.1, h2.2 ▸ hw'⟩)) ?_
    · go_simp
    go_frame
    refine Float.step (v := .bool false) (by rfl) (fun w' hw' => Float.value_at ?_) ?_
    · have q := R1.out
      go_simp
    go_frame
    refine Float.step (v := .bool false) (by rfl) (fun w' hw' => Float.value_at ?_) ?_
    · go_simp
    go_frame
    refine Float.step (v := .bool false) (by rfl) (fun w' hw' => Float.value_at ?_) ?_
    · go_simp
    go_frame
    refine Float.step (v := .pointer (some ⟨w.heap.size, 2, none⟩)) (by rfl) (fun w' hw' => Float.value_at ?_) ?_
    · go_simp
    go_frame
    refine Float.step (v := .int .u8 b) (by rfl) (fun w' hw' => Float.value_at ?_) ?_
    · obtain ⟨y0, y1, y2, y3, y4⟩ := HC w' hw'
      go_simp
    go_frame
    refine Float.step (v := .string s) (by rfl) (fun w' hw' => Float.value_at ?_) ?_
    · go_simp
    go_frame
    refine Float.step (v := .bool (hasB s.data.toList 98)) (by rfl) (fun w' hw' => Float.call_at ?_ ((has_any s 98 w' hsz).mono fun e w'' h2 => ⟨h2.1, h2.2 ▸ hw'⟩)) ?_
    · go_simp
    go_frame
    refine Float.step (v := .bool (regOk (hasB s.data.toList 98) b)) (by rfl) (fun w' hw' => Float.call_at ?_ ((register_any b _ w').mono fun e w'' h2 => ⟨h2.1, h2.2 ▸ hw'⟩)) ?_
    · go_simp
    go_frame
    refine Float.step (v := .bool true) (by rfl) (fun w' hw' => Float.value_at ?_) ?_
    · have q := R2.out
      go_simp
    go_frame
    refine Float.step (v := .bool true) (by rfl) (fun w' hw' => Float.value_at ?_) ?_
    · go_simp
    go_frame
    refine Float.step (v := .bool true) (by rfl) (fun w' hw' => Float.value_at ?_) ?_
    · go_simp
    go_frame
    refine Float.skip (by rfl) ?_
    go_frame
    refine Float.skip (by rfl) ?_
    go_frame
    refine Float.skip (by rfl) ?_
    go_frame
    refine Float.skip (by rfl) ?_
    go_frame
    refine Float.skip (by rfl) ?_
    go_frame
    refine Float.skip (by rfl) ?_
    go_frame
    refine Float.step (v := .bool true) (by rfl) (fun w' hw' => Float.value_at ?_) ?_
    · go_simp
    go_frame
    refine wpQuiet_nil ?_
    intro w4 hB4
    go_wp2
    go_ret
    exact ⟨by simp [legalS, R1.out, R2.out], HB.trans (hB4.mono HB.size)⟩
  · have R1 := Lib.hid hr1
    have R2 := Lib.hid hr2
    have R3 := Lib.hid hr3
    clear hr1 hr2 hr3
    go_enter Tryd.func26, Tryd.ntmps26
    go_wp2_with (go_at_call 14; refine (rshape_yes i _ h1 h2).mono ?_; rintro e w' ⟨rfl, rfl⟩; rw [← HS.out, ← HW.out])
    refine Float.wp_region_below (by kernel_rfl) (by kernel_rfl) ?_
    refine Float.step (v := .bool true) (by rfl) (fun w' hw' => Float.value_at ?_) ?_
    · go_simp
    go_frame
    refine Float.step (v := .bool false) (by rfl) (fun w' hw' => Float.value_at ?_) ?_
    · go_simp
    go_frame
    refine Float.step (v := .bool false) (by rfl) (fun w' hw' => Float.value_at ?_) ?_
    · go_simp
    go_frame
    refine Float.step (v := .pointer (some ⟨w.heap.size, 1, none⟩)) (by rfl) (fun w' hw' => Float.value_at ?_) ?_
    · go_simp
    go_frame
    refine Float.step (v := .int .u8 a) (by rfl) (fun w' hw' => Float.value_at ?_) ?_
    · obtain ⟨y0, y1, y2, y3, y4⟩ := HC w' hw'
      go_simp
    go_frame
    refine Float.step (v := .string s) (by rfl) (fun w' hw' => Float.value_at ?_) ?_
    · go_simp
    go_frame
    refine Float.step (v := .bool (hasB s.data.toList 97)) (by rfl) (fun w' hw' => Float.call_at ?_ ((has_any s 97 w' hsz).mono fun e w'' h2 => ⟨h2.1, h2.2 ▸ hw'⟩)) ?_
    · go_simp
    go_frame
    refine Float.step (v := .bool (regOk (hasB s.data.toList 97) a)) (by rfl) (fun w' hw' => Float.call_at ?_ ((register_any a _ w').mono fun e w'' h2 => ⟨h2.1, h2.2 ▸ hw'⟩)) ?_
    · go_simp
    go_frame
    refine Float.step (v := .bool false) (by rfl) (fun w' hw' => Float.value_at ?_) ?_
    · have q := R1.out
      go_simp
    go_frame
    refine Float.step (v := .bool false) (by rfl) (fun w' hw' => Float.value_at ?_) ?_
    · go_simp
    go_frame
    refine Float.step (v := .bool false) (by rfl) (fun w' hw' => Float.value_at ?_) ?_
    · go_simp
    go_frame
    refine Float.step (v := .pointer (some ⟨w.heap.size, 2, none⟩)) (by rfl) (fun w' hw' => Float.value_at ?_) ?_
    · go_simp
    go_frame
    refine Float.step (v := .int .u8 b) (by rfl) (fun w' hw' => Float.value_at ?_) ?_
    · obtain ⟨y0, y1, y2, y3, y4⟩ := HC w' hw'
      go_simp
    go_frame
    refine Float.step (v := .string s) (by rfl) (fun w' hw' => Float.value_at ?_) ?_
    · go_simp
    go_frame
    refine Float.step (v := .bool (hasB s.data.toList 98)) (by rfl) (fun w' hw' => Float.call_at ?_ ((has_any s 98 w' hsz).mono fun e w'' h2 => ⟨h2.1, h2.2 ▸ hw'⟩)) ?_
    · go_simp
    go_frame
    refine Float.step (v := .bool (regOk (hasB s.data.toList 98) b)) (by rfl) (fun w' hw' => Float.call_at ?_ ((register_any b _ w').mono fun e w'' h2 => ⟨h2.1, h2.2 ▸ hw'⟩)) ?_
    · go_simp
    go_frame
    refine Float.step (v := .bool false) (by rfl) (fun w' hw' => Float.value_at ?_) ?_
    · have q := R2.out
      go_simp
    go_frame
    refine Float.step (v := .bool false) (by rfl) (fun w' hw' => Float.value_at ?_) ?_
    · go_simp
    go_frame
    refine Float.step (v := .bool false) (by rfl) (fun w' hw' => Float.value_at ?_) ?_
    · go_simp
    go_frame
    refine Float.step (v := .pointer (some ⟨w.heap.size, 3, none⟩)) (by rfl) (fun w' hw' => Float.value_at ?_) ?_
    · go_simp
    go_frame
    refine Float.step (v := .int .u8 c) (by rfl) (fun w' hw' => Float.value_at ?_) ?_
    · obtain ⟨y0, y1, y2, y3, y4⟩ := HC w' hw'
      go_simp
    go_frame
    refine Float.step (v := .string s) (by rfl) (fun w' hw' => Float.value_at ?_) ?_
    · go_simp
    go_frame
    refine Float.step (v := .bool (hasB s.data.toList 99)) (by rfl) (fun w' hw' => Float.call_at ?_ ((has_any s 99 w' hsz).mono fun e w'' h2 => ⟨h2.1, h2.2 ▸ hw'⟩)) ?_
    · go_simp
    go_frame
    refine Float.step (v := .bool (regOk (hasB s.data.toList 99) c)) (by rfl) (fun w' hw' => Float.call_at ?_ ((register_any c _ w').mono fun e w'' h2 => ⟨h2.1, h2.2 ▸ hw'⟩)) ?_
    · go_simp
    go_frame
    refine Float.step (v := .bool true) (by rfl) (fun w' hw' => Float.value_at ?_) ?_
    · have q := R3.out
      go_simp
    go_frame
    refine Float.step (v := .bool true) (by rfl) (fun w' hw' => Float.value_at ?_) ?_
    · go_simp
    go_frame
    refine wpQuiet_nil ?_
    intro w4 hB4
    go_wp2
    go_ret
    exact ⟨by simp [legalS, R1.out, R2.out, R3.out], HB.trans (hB4.mono HB.size)⟩
end Go.Proofs.YtcbhkeinmdobhaaDoor

namespace Go.Proofs.YtcbhkeinmdobhaaDoor
open Go.ChangeShapes Go.WideShapes Go.ChangeAt Go.RowKit
set_option linter.unusedVariables false
set_option linter.unusedSimpArgs false

/-- legal, by the number and the fields -/
def legalB (op a b c n : Int) : Bool := decide (1 ≤ op ∧ op ≤ 27) && legalS (opShapes.getD op.toNat []) a b c n
theorem shapeB_list (i : Nat) : (shapeB i).data.toList = opShapes.getD i [] := by simp [shapeB]
theorem shapeB_size (i : Nat) (h1 : 1 ≤ i) (h2 : i ≤ 27) : (shapeB i).size ≤ 100 := by
  have : i = 0 ∨ i = 1 ∨ i = 2 ∨ i = 3 ∨ i = 4 ∨ i = 5 ∨ i = 6 ∨ i = 7 ∨ i = 8 ∨ i = 9 ∨ i = 10 ∨ i = 11 ∨ i = 12 ∨ i = 13 ∨ i = 14 ∨ i = 15 ∨ i = 16 ∨ i = 17 ∨ i = 18 ∨ i = 19 ∨ i = 20 ∨ i = 21 ∨ i = 22 ∨ i = 23 ∨ i = 24 ∨ i = 25 ∨ i = 26 ∨ i = 27 := by omega
  rcases this with rfl | rfl | rfl | rfl | rfl | rfl | rfl | rfl | rfl | rfl | rfl | rfl | rfl | rfl | rfl | rfl | rfl | rfl | rfl | rfl | rfl | rfl | rfl | rfl | rfl | rfl | rfl | rfl <;> decide
theorem shape_cases (i : Nat) (h1 : 1 ≤ i) (h2 : i ≤ 27) : shapeB i = ⟨#[]⟩ ∨ shapeB i = ⟨#[97, 110]⟩ ∨ shapeB i = ⟨#[97, 98]⟩ ∨ shapeB i = ⟨#[97, 98, 110]⟩ ∨ shapeB i = ⟨#[97, 98, 99]⟩ ∨ shapeB i = ⟨#[112]⟩ ∨ shapeB i = ⟨#[97, 112]⟩ ∨ shapeB i = ⟨#[97]⟩ ∨ shapeB i = ⟨#[110]⟩ := by
  have : i = 1 ∨ i = 2 ∨ i = 3 ∨ i = 4 ∨ i = 5 ∨ i = 6 ∨ i = 7 ∨ i = 8 ∨ i = 9 ∨ i = 10 ∨ i = 11 ∨ i = 12 ∨ i = 13 ∨ i = 14 ∨ i = 15 ∨ i = 16 ∨ i = 17 ∨ i = 18 ∨ i = 19 ∨ i = 20 ∨ i = 21 ∨ i = 22 ∨ i = 23 ∨ i = 24 ∨ i = 25 ∨ i = 26 ∨ i = 27 := by omega
  rcases this with rfl | rfl | rfl | rfl | rfl | rfl | rfl | rfl | rfl | rfl | rfl | rfl | rfl | rfl | rfl | rfl | rfl | rfl | rfl | rfl | rfl | rfl | rfl | rfl | rfl | rfl | rfl <;> simp [shapeB, opShapes]

theorem legal_yes (i : Nat) (a b c n : Int) (w : World) (h1 : 1 ≤ i) (h2 : i ≤ 27) (ha : 0 ≤ a) (hb : 0 ≤ b) (hc : 0 ≤ c) (hT : TabOk w) (hz : 0 < w.heap.size) :
    Calls Tryd.prog 25 #[ins i a b c n] w fun e w' => e = .returned (.bool (legalS (opShapes.getD i []) a b c n)) ∧ Below w.heap.size w w' := by
  have hn := (hT i (by omega)).2
  rw [← shapeB_list]
  rcases shape_cases i h1 h2 with h | h | h | h | h | h | h | h | h
  · rw [h]; exact legal_none i a b c n w h1 h2 h ha hb hc hn hz
  · rw [h]; exact legal_an i a b c n w h1 h2 h ha hb hc hn hz
  · rw [h]; exact legal_ab i a b c n w h1 h2 h ha hb hc hn hz
  · rw [h]; exact legal_abn i a b c n w h1 h2 h ha hb hc hn hz
  · rw [h]; exact legal_abc i a b c n w h1 h2 h ha hb hc hn hz
  · rw [h]; exact legal_p i a b c n w h1 h2 h ha hb hc hn hz
  · rw [h]; exact legal_ap i a b c n w h1 h2 h ha hb hc hn hz
  · rw [h]; exact legal_a i a b c n w h1 h2 h ha hb hc hn hz
  · rw [h]; exact legal_n i a b c n w h1 h2 h ha hb hc hn hz

theorem legal_no (op a b c n : Int) (w : World) (h : op < 1 ∨ 27 < op) (h0 : 0 ≤ op) (h2 : op < 256) :
    Calls Tryd.prog 25 #[ins op a b c n] w fun e w' => e = .returned (.bool false) ∧ Below w.heap.size w w' := by
  go_enter Tryd.func25, Tryd.ntmps25
  go_wp2_with (go_at_call 13; refine (shape_no _ _ h h0 h2).mono ?_; rintro e w' ⟨rfl, rfl⟩)
  refine wp_loop_rounds 1 ?_
  rw [rounds_succ]
  go_wp2
  go_ret
  exact ⟨rfl, by go_grown⟩
theorem legal (op a b c n : Int) (w : World) (h0 : 0 ≤ op) (h2 : op < 256) (ha : 0 ≤ a) (hb : 0 ≤ b) (hc : 0 ≤ c) (hT : TabOk w) (hz : 0 < w.heap.size) :
    Calls Tryd.prog 25 #[ins op a b c n] w fun e w' => e = .returned (.bool (legalB op a b c n)) ∧ Below w.heap.size w w' := by
  by_cases h : 1 ≤ op ∧ op ≤ 27
  · obtain ⟨i, rfl⟩ := Int.eq_ofNat_of_zero_le h0
    have := legal_yes i a b c n w (by omega) (by omega) ha hb hc hT hz
    simpa [legalB, h] using this
  · have := legal_no op a b c n w (by omega) h0 h2
    simpa [legalB, h] using this
theorem bcell {W w1 : World} (hb : Below W.heap.size W w1) : (∀ b o, b < W.heap.size → w1.cell? ⟨b, o, none⟩ = W.cell? ⟨b, o, none⟩) ∧ (∀ b o, b < W.heap.size → w1.frozen? ⟨b, o, none⟩ = W.frozen? ⟨b, o, none⟩) :=
  ⟨fun b o h => hb.cell (p := ⟨b, o, none⟩) h, fun b o h => hb.frozen (p := ⟨b, o, none⟩) h⟩
theorem below_dn {B : Nat} {w W : World} (h : Below B w W) (n : Nat) : Below B w (W.drewN n) := ⟨h.os, h.tape, h.output, h.size, h.block⟩
theorem rlegal_no (op a b c n : Int) (w : World) (h : op < 1 ∨ 27 < op) (h0 : 0 ≤ op) (h2 : op < 256) :
    Calls Tryd.prog 26 #[ins op a b c n] w fun e w' => e = .returned (.bool false) ∧ Below w.heap.size w w' := by
  go_enter Tryd.func26, Tryd.ntmps26
  go_wp2_with (go_at_call 14; refine (rshape_no _ _ h h0 h2).mono ?_; rintro e w' ⟨rfl, rfl⟩)
  go_quiet (fail)
  go_wp2
  go_ret
  exact ⟨rfl, below_dn (by go_grown) _⟩
theorem rlegal (op a b c n : Int) (w : World) (h0 : 0 ≤ op) (h2 : op < 256) :
    Calls Tryd.prog 26 #[ins op a b c n] w fun e w' => e = .returned (.bool (legalB op a b c n)) ∧ Below w.heap.size w w' := by
  by_cases h : 1 ≤ op ∧ op ≤ 27
  · obtain ⟨i, rfl⟩ := Int.eq_ofNat_of_zero_le h0
    have := rlegal_yes i a b c n w (by omega) (by omega) (shapeB_size i (by omega) (by omega))
    rw [shapeB_list] at this
    simpa [legalB, h] using this
  · have := rlegal_no op a b c n w (by omega) h0 h2
    simpa [legalB, h] using this
end Go.Proofs.YtcbhkeinmdobhaaDoor

namespace Go.Proofs.YtcbhkeinmdobhaaDoor
open Go.ChangeShapes Go.WideShapes Go.ChangeAt Go.RowKit
set_option linter.unusedVariables false
set_option linter.unusedSimpArgs false

def jumpB (op a b c n : Int) : Bool := legalB op a b c n && (decide (op = 25) || (hasB (opShapes.getD op.toNat []) 112))
def jumpV (op a b c n : Int) : Int := if jumpB op a b c n then (if op = 25 then -1 else n) else 0

theorem jumps_no (op a b c n : Int) (w : World) (h0 : 0 ≤ op) (h2 : op < 256) (ha : 0 ≤ a) (hb : 0 ≤ b) (hc : 0 ≤ c) (hT : TabOk w) (hz : 0 < w.heap.size) (hl : legalB op a b c n = false) :
    Calls Tryd.prog 23 #[ins op a b c n] w fun e w' => e = .returned (.tuple #[.int .i64 0, .bool false]) ∧ Below w.heap.size w w' := by
  have hT' : TabOk (w.alloc (.cells #[.int .u8 op, .int .u8 a, .int .u8 b, .int .u8 c, .int .i32 n] 26)) := fun i hi => by
    have hb := ((Below.refl w.heap.size w).alloc (Nat.le_refl _) (.cells #[.int .u8 op, .int .u8 a, .int .u8 b, .int .u8 c, .int .i32 n] 26))
    exact ⟨(hb.cell (p := ⟨0, i * 2, none⟩) hz).trans (hT i hi).1, (hb.cell (p := ⟨0, i * 2 + 1, none⟩) hz).trans (hT i hi).2⟩
  have HL := Lib.hid hl
  have HT := Lib.hid hT'
  clear hT hT' hl
  go_enter Tryd.func23, Tryd.ntmps23
  go_wp2_with (go_at_call 25; refine (legal op a b c n _ h0 h2 ha hb hc HT.out (by simp)).mono ?_; rintro e w' ⟨rfl, hb1⟩; rw [HL.out])
  go_ret2
  exact ⟨rfl, (((Below.refl _ _).alloc (Nat.le_refl _) _)).trans (hb1.mono (by simp))⟩

theorem jumps_r (i : Nat) (a b c n : Int) (w : World) (s : ByteArray) (h1 : 1 ≤ i) (h2 : i ≤ 27) (ha : 0 ≤ a) (hb : 0 ≤ b) (hc : 0 ≤ c) (hn0 : -2147483648 ≤ n) (hn1 : n ≤ 2147483647) (hT : TabOk w) (hz : 0 < w.heap.size) (hl : legalB i a b c n = true) (hs : nameB i = s) (t0 : (s.toList == [106, 109, 114]) = true) :
    Calls Tryd.prog 23 #[ins i a b c n] w fun e w' => e = .returned (.tuple #[.int .i64 (-1), .bool true]) ∧ Below w.heap.size w w' := by
  have hT' : TabOk (w.alloc (.cells #[.int .u8 i, .int .u8 a, .int .u8 b, .int .u8 c, .int .i32 n] 26)) := fun j hi => by
    have hb := ((Below.refl w.heap.size w).alloc (Nat.le_refl _) (.cells #[.int .u8 i, .int .u8 a, .int .u8 b, .int .u8 c, .int .i32 n] 26))
    exact ⟨(hb.cell (p := ⟨0, j * 2, none⟩) hz).trans (hT j hi).1, (hb.cell (p := ⟨0, j * 2 + 1, none⟩) hz).trans (hT j hi).2⟩
  have HL := Lib.hid hl
  have HT := Lib.hid hT'
  have HS := Lib.hid hs
  clear hT hT' hl hs
  go_enter Tryd.func23, Tryd.ntmps23
  go_wp2_with (go_at_call 25; refine (legal i a b c n _ (by omega) (by omega) ha hb hc HT.out (by simp)).mono ?_; rintro e w' ⟨rfl, hb1⟩; rw [HL.out]; (obtain ⟨bc, bf⟩ := bcell hb1); (have hnm : w'.cell? ⟨0, i * 2, none⟩ = some (.string s) := (by rw [bc _ _ (by simp), ← HS.out]; exact (HT.out i (by omega)).1)); (have hx0 := bc w.heap.size 0 (by simp)); (have hx4 := bc w.heap.size 4 (by simp)); (simp [World.cell?_alloc_new] at hx0 hx4); (clear bc bf))
  go_ret2
  exact ⟨by rfl, (((Below.refl _ _).alloc (Nat.le_refl _) _)).trans (hb1.mono (by simp))⟩
theorem jumps_p1 (i : Nat) (a b c n : Int) (w : World) (s : ByteArray) (h1 : 1 ≤ i) (h2 : i ≤ 27) (ha : 0 ≤ a) (hb : 0 ≤ b) (hc : 0 ≤ c) (hn0 : -2147483648 ≤ n) (hn1 : n ≤ 2147483647) (hT : TabOk w) (hz : 0 < w.heap.size) (hl : legalB i a b c n = true) (hs : nameB i = s) (t0 : (s.toList == [106, 109, 114]) = false) (t1 : (s.toList == [106, 109, 112]) = true) :
    Calls Tryd.prog 23 #[ins i a b c n] w fun e w' => e = .returned (.tuple #[.int .i64 n, .bool true]) ∧ Below w.heap.size w w' := by
  have hT' : TabOk (w.alloc (.cells #[.int .u8 i, .int .u8 a, .int .u8 b, .int .u8 c, .int .i32 n] 26)) := fun j hi => by
    have hb := ((Below.refl w.heap.size w).alloc (Nat.le_refl _) (.cells #[.int .u8 i, .int .u8 a, .int .u8 b, .int .u8 c, .int .i32 n] 26))
    exact ⟨(hb.cell (p := ⟨0, j * 2, none⟩) hz).trans (hT j hi).1, (hb.cell (p := ⟨0, j * 2 + 1, none⟩) hz).trans (hT j hi).2⟩
  have HL := Lib.hid hl
  have HT := Lib.hid hT'
  have HS := Lib.hid hs
  clear hT hT' hl hs
  go_enter Tryd.func23, Tryd.ntmps23
  go_wp2_with (go_at_call 25; refine (legal i a b c n _ (by omega) (by omega) ha hb hc HT.out (by simp)).mono ?_; rintro e w' ⟨rfl, hb1⟩; rw [HL.out]; (obtain ⟨bc, bf⟩ := bcell hb1); (have hnm : w'.cell? ⟨0, i * 2, none⟩ = some (.string s) := (by rw [bc _ _ (by simp), ← HS.out]; exact (HT.out i (by omega)).1)); (have hx0 := bc w.heap.size 0 (by simp)); (have hx4 := bc w.heap.size 4 (by simp)); (simp [World.cell?_alloc_new] at hx0 hx4); (clear bc bf))
  go_ret2
  exact ⟨by rfl, (((Below.refl _ _).alloc (Nat.le_refl _) _)).trans (hb1.mono (by simp))⟩
theorem jumps_p2 (i : Nat) (a b c n : Int) (w : World) (s : ByteArray) (h1 : 1 ≤ i) (h2 : i ≤ 27) (ha : 0 ≤ a) (hb : 0 ≤ b) (hc : 0 ≤ c) (hn0 : -2147483648 ≤ n) (hn1 : n ≤ 2147483647) (hT : TabOk w) (hz : 0 < w.heap.size) (hl : legalB i a b c n = true) (hs : nameB i = s) (t0 : (s.toList == [106, 109, 114]) = false) (t1 : (s.toList == [106, 109, 112]) = false) (t2 : (s.toList == [106, 122]) = true) :
    Calls Tryd.prog 23 #[ins i a b c n] w fun e w' => e = .returned (.tuple #[.int .i64 n, .bool true]) ∧ Below w.heap.size w w' := by
  have hT' : TabOk (w.alloc (.cells #[.int .u8 i, .int .u8 a, .int .u8 b, .int .u8 c, .int .i32 n] 26)) := fun j hi => by
    have hb := ((Below.refl w.heap.size w).alloc (Nat.le_refl _) (.cells #[.int .u8 i, .int .u8 a, .int .u8 b, .int .u8 c, .int .i32 n] 26))
    exact ⟨(hb.cell (p := ⟨0, j * 2, none⟩) hz).trans (hT j hi).1, (hb.cell (p := ⟨0, j * 2 + 1, none⟩) hz).trans (hT j hi).2⟩
  have HL := Lib.hid hl
  have HT := Lib.hid hT'
  have HS := Lib.hid hs
  clear hT hT' hl hs
  go_enter Tryd.func23, Tryd.ntmps23
  go_wp2_with (go_at_call 25; refine (legal i a b c n _ (by omega) (by omega) ha hb hc HT.out (by simp)).mono ?_; rintro e w' ⟨rfl, hb1⟩; rw [HL.out]; (obtain ⟨bc, bf⟩ := bcell hb1); (have hnm : w'.cell? ⟨0, i * 2, none⟩ = some (.string s) := (by rw [bc _ _ (by simp), ← HS.out]; exact (HT.out i (by omega)).1)); (have hx0 := bc w.heap.size 0 (by simp)); (have hx4 := bc w.heap.size 4 (by simp)); (simp [World.cell?_alloc_new] at hx0 hx4); (clear bc bf))
  go_ret2
  exact ⟨by rfl, (((Below.refl _ _).alloc (Nat.le_refl _) _)).trans (hb1.mono (by simp))⟩
theorem jumps_p3 (i : Nat) (a b c n : Int) (w : World) (s : ByteArray) (h1 : 1 ≤ i) (h2 : i ≤ 27) (ha : 0 ≤ a) (hb : 0 ≤ b) (hc : 0 ≤ c) (hn0 : -2147483648 ≤ n) (hn1 : n ≤ 2147483647) (hT : TabOk w) (hz : 0 < w.heap.size) (hl : legalB i a b c n = true) (hs : nameB i = s) (t0 : (s.toList == [106, 109, 114]) = false) (t1 : (s.toList == [106, 109, 112]) = false) (t2 : (s.toList == [106, 122]) = false) (t3 : (s.toList == [106, 110, 122]) = true) :
    Calls Tryd.prog 23 #[ins i a b c n] w fun e w' => e = .returned (.tuple #[.int .i64 n, .bool true]) ∧ Below w.heap.size w w' := by
  have hT' : TabOk (w.alloc (.cells #[.int .u8 i, .int .u8 a, .int .u8 b, .int .u8 c, .int .i32 n] 26)) := fun j hi => by
    have hb := ((Below.refl w.heap.size w).alloc (Nat.le_refl _) (.cells #[.int .u8 i, .int .u8 a, .int .u8 b, .int .u8 c, .int .i32 n] 26))
    exact ⟨(hb.cell (p := ⟨0, j * 2, none⟩) hz).trans (hT j hi).1, (hb.cell (p := ⟨0, j * 2 + 1, none⟩) hz).trans (hT j hi).2⟩
  have HL := Lib.hid hl
  have HT := Lib.hid hT'
  have HS := Lib.hid hs
  clear hT hT' hl hs
  go_enter Tryd.func23, Tryd.ntmps23
  go_wp2_with (go_at_call 25; refine (legal i a b c n _ (by omega) (by omega) ha hb hc HT.out (by simp)).mono ?_; rintro e w' ⟨rfl, hb1⟩; rw [HL.out]; (obtain ⟨bc, bf⟩ := bcell hb1); (have hnm : w'.cell? ⟨0, i * 2, none⟩ = some (.string s) := (by rw [bc _ _ (by simp), ← HS.out]; exact (HT.out i (by omega)).1)); (have hx0 := bc w.heap.size 0 (by simp)); (have hx4 := bc w.heap.size 4 (by simp)); (simp [World.cell?_alloc_new] at hx0 hx4); (clear bc bf))
  go_ret2
  exact ⟨by rfl, (((Below.refl _ _).alloc (Nat.le_refl _) _)).trans (hb1.mono (by simp))⟩
theorem jumps_p4 (i : Nat) (a b c n : Int) (w : World) (s : ByteArray) (h1 : 1 ≤ i) (h2 : i ≤ 27) (ha : 0 ≤ a) (hb : 0 ≤ b) (hc : 0 ≤ c) (hn0 : -2147483648 ≤ n) (hn1 : n ≤ 2147483647) (hT : TabOk w) (hz : 0 < w.heap.size) (hl : legalB i a b c n = true) (hs : nameB i = s) (t0 : (s.toList == [106, 109, 114]) = false) (t1 : (s.toList == [106, 109, 112]) = false) (t2 : (s.toList == [106, 122]) = false) (t3 : (s.toList == [106, 110, 122]) = false) (t4 : (s.toList == [99, 97, 108, 108]) = true) :
    Calls Tryd.prog 23 #[ins i a b c n] w fun e w' => e = .returned (.tuple #[.int .i64 n, .bool true]) ∧ Below w.heap.size w w' := by
  have hT' : TabOk (w.alloc (.cells #[.int .u8 i, .int .u8 a, .int .u8 b, .int .u8 c, .int .i32 n] 26)) := fun j hi => by
    have hb := ((Below.refl w.heap.size w).alloc (Nat.le_refl _) (.cells #[.int .u8 i, .int .u8 a, .int .u8 b, .int .u8 c, .int .i32 n] 26))
    exact ⟨(hb.cell (p := ⟨0, j * 2, none⟩) hz).trans (hT j hi).1, (hb.cell (p := ⟨0, j * 2 + 1, none⟩) hz).trans (hT j hi).2⟩
  have HL := Lib.hid hl
  have HT := Lib.hid hT'
  have HS := Lib.hid hs
  clear hT hT' hl hs
  go_enter Tryd.func23, Tryd.ntmps23
  go_wp2_with (go_at_call 25; refine (legal i a b c n _ (by omega) (by omega) ha hb hc HT.out (by simp)).mono ?_; rintro e w' ⟨rfl, hb1⟩; rw [HL.out]; (obtain ⟨bc, bf⟩ := bcell hb1); (have hnm : w'.cell? ⟨0, i * 2, none⟩ = some (.string s) := (by rw [bc _ _ (by simp), ← HS.out]; exact (HT.out i (by omega)).1)); (have hx0 := bc w.heap.size 0 (by simp)); (have hx4 := bc w.heap.size 4 (by simp)); (simp [World.cell?_alloc_new] at hx0 hx4); (clear bc bf))
  go_ret2
  exact ⟨by rfl, (((Below.refl _ _).alloc (Nat.le_refl _) _)).trans (hb1.mono (by simp))⟩
theorem jumps_o (i : Nat) (a b c n : Int) (w : World) (s : ByteArray) (h1 : 1 ≤ i) (h2 : i ≤ 27) (ha : 0 ≤ a) (hb : 0 ≤ b) (hc : 0 ≤ c) (hn0 : -2147483648 ≤ n) (hn1 : n ≤ 2147483647) (hT : TabOk w) (hz : 0 < w.heap.size) (hl : legalB i a b c n = true) (hs : nameB i = s) (t0 : (s.toList == [106, 109, 114]) = false) (t1 : (s.toList == [106, 109, 112]) = false) (t2 : (s.toList == [106, 122]) = false) (t3 : (s.toList == [106, 110, 122]) = false) (t4 : (s.toList == [99, 97, 108, 108]) = false) :
    Calls Tryd.prog 23 #[ins i a b c n] w fun e w' => e = .returned (.tuple #[.int .i64 0, .bool false]) ∧ Below w.heap.size w w' := by
  have hT' : TabOk (w.alloc (.cells #[.int .u8 i, .int .u8 a, .int .u8 b, .int .u8 c, .int .i32 n] 26)) := fun j hi => by
    have hb := ((Below.refl w.heap.size w).alloc (Nat.le_refl _) (.cells #[.int .u8 i, .int .u8 a, .int .u8 b, .int .u8 c, .int .i32 n] 26))
    exact ⟨(hb.cell (p := ⟨0, j * 2, none⟩) hz).trans (hT j hi).1, (hb.cell (p := ⟨0, j * 2 + 1, none⟩) hz).trans (hT j hi).2⟩
  have HL := Lib.hid hl
  have HT := Lib.hid hT'
  have HS := Lib.hid hs
  clear hT hT' hl hs
  go_enter Tryd.func23, Tryd.ntmps23
  go_wp2_with (go_at_call 25; refine (legal i a b c n _ (by omega) (by omega) ha hb hc HT.out (by simp)).mono ?_; rintro e w' ⟨rfl, hb1⟩; rw [HL.out]; (obtain ⟨bc, bf⟩ := bcell hb1); (have hnm : w'.cell? ⟨0, i * 2, none⟩ = some (.string s) := (by rw [bc _ _ (by simp), ← HS.out]; exact (HT.out i (by omega)).1)); (have hx0 := bc w.heap.size 0 (by simp)); (have hx4 := bc w.heap.size 4 (by simp)); (simp [World.cell?_alloc_new] at hx0 hx4); (clear bc bf))
  go_ret2
  exact ⟨by rfl, (((Below.refl _ _).alloc (Nat.le_refl _) _)).trans (hb1.mono (by simp))⟩
theorem jumps (op a b c n : Int) (w : World) (h0 : 0 ≤ op) (h2 : op < 256) (ha : 0 ≤ a) (hb : 0 ≤ b) (hc : 0 ≤ c) (hn0 : -2147483648 ≤ n) (hn1 : n ≤ 2147483647) (hT : TabOk w) (hz : 0 < w.heap.size) :
    Calls Tryd.prog 23 #[ins op a b c n] w fun e w' => e = .returned (.tuple #[.int .i64 (jumpV op a b c n), .bool (jumpB op a b c n)]) ∧ Below w.heap.size w w' := by
  rcases hl : legalB op a b c n with _ | _
  · have := jumps_no op a b c n w h0 h2 ha hb hc hT hz hl
    simpa [jumpV, jumpB, hl] using this
  · have hr : 1 ≤ op ∧ op ≤ 27 := by
      unfold legalB at hl
      rw [Bool.and_eq_true] at hl
      simpa using hl.1
    obtain ⟨i, rfl⟩ := Int.eq_ofNat_of_zero_le h0
    have : i = 1 ∨ i = 2 ∨ i = 3 ∨ i = 4 ∨ i = 5 ∨ i = 6 ∨ i = 7 ∨ i = 8 ∨ i = 9 ∨ i = 10 ∨ i = 11 ∨ i = 12 ∨ i = 13 ∨ i = 14 ∨ i = 15 ∨ i = 16 ∨ i = 17 ∨ i = 18 ∨ i = 19 ∨ i = 20 ∨ i = 21 ∨ i = 22 ∨ i = 23 ∨ i = 24 ∨ i = 25 ∨ i = 26 ∨ i = 27 := by omega
    rcases this with rfl | rfl | rfl | rfl | rfl | rfl | rfl | rfl | rfl | rfl | rfl | rfl | rfl | rfl | rfl | rfl | rfl | rfl | rfl | rfl | rfl | rfl | rfl | rfl | rfl | rfl | rfl
    · have q := jumps_o 1 a b c n w _ (by omega) (by omega) ha hb hc hn0 hn1 hT hz hl rfl (by kernel_rfl) (by kernel_rfl) (by kernel_rfl) (by kernel_rfl) (by kernel_rfl)
      have e1 : jumpB ((1 : Nat) : Int) a b c n = false := by unfold jumpB; rw [hl]; rfl
      have e2 : jumpV ((1 : Nat) : Int) a b c n = 0 := by unfold jumpV; rw [e1]; rfl
      rw [e1, e2]
      exact q
    · have q := jumps_o 2 a b c n w _ (by omega) (by omega) ha hb hc hn0 hn1 hT hz hl rfl (by kernel_rfl) (by kernel_rfl) (by kernel_rfl) (by kernel_rfl) (by kernel_rfl)
      have e1 : jumpB ((2 : Nat) : Int) a b c n = false := by unfold jumpB; rw [hl]; rfl
      have e2 : jumpV ((2 : Nat) : Int) a b c n = 0 := by unfold jumpV; rw [e1]; rfl
      rw [e1, e2]
      exact q
    · have q := jumps_o 3 a b c n w _ (by omega) (by omega) ha hb hc hn0 hn1 hT hz hl rfl (by kernel_rfl) (by kernel_rfl) (by kernel_rfl) (by kernel_rfl) (by kernel_rfl)
      have e1 : jumpB ((3 : Nat) : Int) a b c n = false := by unfold jumpB; rw [hl]; rfl
      have e2 : jumpV ((3 : Nat) : Int) a b c n = 0 := by unfold jumpV; rw [e1]; rfl
      rw [e1, e2]
      exact q
    · have q := jumps_o 4 a b c n w _ (by omega) (by omega) ha hb hc hn0 hn1 hT hz hl rfl (by kernel_rfl) (by kernel_rfl) (by kernel_rfl) (by kernel_rfl) (by kernel_rfl)
      have e1 : jumpB ((4 : Nat) : Int) a b c n = false := by unfold jumpB; rw [hl]; rfl
      have e2 : jumpV ((4 : Nat) : Int) a b c n = 0 := by unfold jumpV; rw [e1]; rfl
      rw [e1, e2]
      exact q
    · have q := jumps_o 5 a b c n w _ (by omega) (by omega) ha hb hc hn0 hn1 hT hz hl rfl (by kernel_rfl) (by kernel_rfl) (by kernel_rfl) (by kernel_rfl) (by kernel_rfl)
      have e1 : jumpB ((5 : Nat) : Int) a b c n = false := by unfold jumpB; rw [hl]; rfl
      have e2 : jumpV ((5 : Nat) : Int) a b c n = 0 := by unfold jumpV; rw [e1]; rfl
      rw [e1, e2]
      exact q
    · have q := jumps_o 6 a b c n w _ (by omega) (by omega) ha hb hc hn0 hn1 hT hz hl rfl (by kernel_rfl) (by kernel_rfl) (by kernel_rfl) (by kernel_rfl) (by kernel_rfl)
      have e1 : jumpB ((6 : Nat) : Int) a b c n = false := by unfold jumpB; rw [hl]; rfl
      have e2 : jumpV ((6 : Nat) : Int) a b c n = 0 := by unfold jumpV; rw [e1]; rfl
      rw [e1, e2]
      exact q
    · have q := jumps_o 7 a b c n w _ (by omega) (by omega) ha hb hc hn0 hn1 hT hz hl rfl (by kernel_rfl) (by kernel_rfl) (by kernel_rfl) (by kernel_rfl) (by kernel_rfl)
      have e1 : jumpB ((7 : Nat) : Int) a b c n = false := by unfold jumpB; rw [hl]; rfl
      have e2 : jumpV ((7 : Nat) : Int) a b c n = 0 := by unfold jumpV; rw [e1]; rfl
      rw [e1, e2]
      exact q
    · have q := jumps_o 8 a b c n w _ (by omega) (by omega) ha hb hc hn0 hn1 hT hz hl rfl (by kernel_rfl) (by kernel_rfl) (by kernel_rfl) (by kernel_rfl) (by kernel_rfl)
      have e1 : jumpB ((8 : Nat) : Int) a b c n = false := by unfold jumpB; rw [hl]; rfl
      have e2 : jumpV ((8 : Nat) : Int) a b c n = 0 := by unfold jumpV; rw [e1]; rfl
      rw [e1, e2]
      exact q
    · have q := jumps_o 9 a b c n w _ (by omega) (by omega) ha hb hc hn0 hn1 hT hz hl rfl (by kernel_rfl) (by kernel_rfl) (by kernel_rfl) (by kernel_rfl) (by kernel_rfl)
      have e1 : jumpB ((9 : Nat) : Int) a b c n = false := by unfold jumpB; rw [hl]; rfl
      have e2 : jumpV ((9 : Nat) : Int) a b c n = 0 := by unfold jumpV; rw [e1]; rfl
      rw [e1, e2]
      exact q
    · have q := jumps_o 10 a b c n w _ (by omega) (by omega) ha hb hc hn0 hn1 hT hz hl rfl (by kernel_rfl) (by kernel_rfl) (by kernel_rfl) (by kernel_rfl) (by kernel_rfl)
      have e1 : jumpB ((10 : Nat) : Int) a b c n = false := by unfold jumpB; rw [hl]; rfl
      have e2 : jumpV ((10 : Nat) : Int) a b c n = 0 := by unfold jumpV; rw [e1]; rfl
      rw [e1, e2]
      exact q
    · have q := jumps_o 11 a b c n w _ (by omega) (by omega) ha hb hc hn0 hn1 hT hz hl rfl (by kernel_rfl) (by kernel_rfl) (by kernel_rfl) (by kernel_rfl) (by kernel_rfl)
      have e1 : jumpB ((11 : Nat) : Int) a b c n = false := by unfold jumpB; rw [hl]; rfl
      have e2 : jumpV ((11 : Nat) : Int) a b c n = 0 := by unfold jumpV; rw [e1]; rfl
      rw [e1, e2]
      exact q
    · have q := jumps_o 12 a b c n w _ (by omega) (by omega) ha hb hc hn0 hn1 hT hz hl rfl (by kernel_rfl) (by kernel_rfl) (by kernel_rfl) (by kernel_rfl) (by kernel_rfl)
      have e1 : jumpB ((12 : Nat) : Int) a b c n = false := by unfold jumpB; rw [hl]; rfl
      have e2 : jumpV ((12 : Nat) : Int) a b c n = 0 := by unfold jumpV; rw [e1]; rfl
      rw [e1, e2]
      exact q
    · have q := jumps_o 13 a b c n w _ (by omega) (by omega) ha hb hc hn0 hn1 hT hz hl rfl (by kernel_rfl) (by kernel_rfl) (by kernel_rfl) (by kernel_rfl) (by kernel_rfl)
      have e1 : jumpB ((13 : Nat) : Int) a b c n = false := by unfold jumpB; rw [hl]; rfl
      have e2 : jumpV ((13 : Nat) : Int) a b c n = 0 := by unfold jumpV; rw [e1]; rfl
      rw [e1, e2]
      exact q
    · have q := jumps_o 14 a b c n w _ (by omega) (by omega) ha hb hc hn0 hn1 hT hz hl rfl (by kernel_rfl) (by kernel_rfl) (by kernel_rfl) (by kernel_rfl) (by kernel_rfl)
      have e1 : jumpB ((14 : Nat) : Int) a b c n = false := by unfold jumpB; rw [hl]; rfl
      have e2 : jumpV ((14 : Nat) : Int) a b c n = 0 := by unfold jumpV; rw [e1]; rfl
      rw [e1, e2]
      exact q
    · have q := jumps_o 15 a b c n w _ (by omega) (by omega) ha hb hc hn0 hn1 hT hz hl rfl (by kernel_rfl) (by kernel_rfl) (by kernel_rfl) (by kernel_rfl) (by kernel_rfl)
      have e1 : jumpB ((15 : Nat) : Int) a b c n = false := by unfold jumpB; rw [hl]; rfl
      have e2 : jumpV ((15 : Nat) : Int) a b c n = 0 := by unfold jumpV; rw [e1]; rfl
      rw [e1, e2]
      exact q
    · have q := jumps_o 16 a b c n w _ (by omega) (by omega) ha hb hc hn0 hn1 hT hz hl rfl (by kernel_rfl) (by kernel_rfl) (by kernel_rfl) (by kernel_rfl) (by kernel_rfl)
      have e1 : jumpB ((16 : Nat) : Int) a b c n = false := by unfold jumpB; rw [hl]; rfl
      have e2 : jumpV ((16 : Nat) : Int) a b c n = 0 := by unfold jumpV; rw [e1]; rfl
      rw [e1, e2]
      exact q
    · have q := jumps_o 17 a b c n w _ (by omega) (by omega) ha hb hc hn0 hn1 hT hz hl rfl (by kernel_rfl) (by kernel_rfl) (by kernel_rfl) (by kernel_rfl) (by kernel_rfl)
      have e1 : jumpB ((17 : Nat) : Int) a b c n = false := by unfold jumpB; rw [hl]; rfl
      have e2 : jumpV ((17 : Nat) : Int) a b c n = 0 := by unfold jumpV; rw [e1]; rfl
      rw [e1, e2]
      exact q
    · have q := jumps_o 18 a b c n w _ (by omega) (by omega) ha hb hc hn0 hn1 hT hz hl rfl (by kernel_rfl) (by kernel_rfl) (by kernel_rfl) (by kernel_rfl) (by kernel_rfl)
      have e1 : jumpB ((18 : Nat) : Int) a b c n = false := by unfold jumpB; rw [hl]; rfl
      have e2 : jumpV ((18 : Nat) : Int) a b c n = 0 := by unfold jumpV; rw [e1]; rfl
      rw [e1, e2]
      exact q
    · have q := jumps_o 19 a b c n w _ (by omega) (by omega) ha hb hc hn0 hn1 hT hz hl rfl (by kernel_rfl) (by kernel_rfl) (by kernel_rfl) (by kernel_rfl) (by kernel_rfl)
      have e1 : jumpB ((19 : Nat) : Int) a b c n = false := by unfold jumpB; rw [hl]; rfl
      have e2 : jumpV ((19 : Nat) : Int) a b c n = 0 := by unfold jumpV; rw [e1]; rfl
      rw [e1, e2]
      exact q
    · have q := jumps_o 20 a b c n w _ (by omega) (by omega) ha hb hc hn0 hn1 hT hz hl rfl (by kernel_rfl) (by kernel_rfl) (by kernel_rfl) (by kernel_rfl) (by kernel_rfl)
      have e1 : jumpB ((20 : Nat) : Int) a b c n = false := by unfold jumpB; rw [hl]; rfl
      have e2 : jumpV ((20 : Nat) : Int) a b c n = 0 := by unfold jumpV; rw [e1]; rfl
      rw [e1, e2]
      exact q
    · have q := jumps_o 21 a b c n w _ (by omega) (by omega) ha hb hc hn0 hn1 hT hz hl rfl (by kernel_rfl) (by kernel_rfl) (by kernel_rfl) (by kernel_rfl) (by kernel_rfl)
      have e1 : jumpB ((21 : Nat) : Int) a b c n = false := by unfold jumpB; rw [hl]; rfl
      have e2 : jumpV ((21 : Nat) : Int) a b c n = 0 := by unfold jumpV; rw [e1]; rfl
      rw [e1, e2]
      exact q
    · have q := jumps_p1 22 a b c n w _ (by omega) (by omega) ha hb hc hn0 hn1 hT hz hl rfl (by kernel_rfl) (by kernel_rfl)
      have e1 : jumpB ((22 : Nat) : Int) a b c n = true := by unfold jumpB; rw [hl]; rfl
      have e2 : jumpV ((22 : Nat) : Int) a b c n = n := by unfold jumpV; rw [e1]; rfl
      rw [e1, e2]
      exact q
    · have q := jumps_p2 23 a b c n w _ (by omega) (by omega) ha hb hc hn0 hn1 hT hz hl rfl (by kernel_rfl) (by kernel_rfl) (by kernel_rfl)
      have e1 : jumpB ((23 : Nat) : Int) a b c n = true := by unfold jumpB; rw [hl]; rfl
      have e2 : jumpV ((23 : Nat) : Int) a b c n = n := by unfold jumpV; rw [e1]; rfl
      rw [e1, e2]
      exact q
    · have q := jumps_p3 24 a b c n w _ (by omega) (by omega) ha hb hc hn0 hn1 hT hz hl rfl (by kernel_rfl) (by kernel_rfl) (by kernel_rfl) (by kernel_rfl)
      have e1 : jumpB ((24 : Nat) : Int) a b c n = true := by unfold jumpB; rw [hl]; rfl
      have e2 : jumpV ((24 : Nat) : Int) a b c n = n := by unfold jumpV; rw [e1]; rfl
      rw [e1, e2]
      exact q
    · have q := jumps_r 25 a b c n w _ (by omega) (by omega) ha hb hc hn0 hn1 hT hz hl rfl (by kernel_rfl)
      have e1 : jumpB ((25 : Nat) : Int) a b c n = true := by unfold jumpB; rw [hl]; rfl
      have e2 : jumpV ((25 : Nat) : Int) a b c n = -1 := by unfold jumpV; rw [e1]; rfl
      rw [e1, e2]
      exact q
    · have q := jumps_p4 26 a b c n w _ (by omega) (by omega) ha hb hc hn0 hn1 hT hz hl rfl (by kernel_rfl) (by kernel_rfl) (by kernel_rfl) (by kernel_rfl) (by kernel_rfl)
      have e1 : jumpB ((26 : Nat) : Int) a b c n = true := by unfold jumpB; rw [hl]; rfl
      have e2 : jumpV ((26 : Nat) : Int) a b c n = n := by unfold jumpV; rw [e1]; rfl
      rw [e1, e2]
      exact q
    · have q := jumps_o 27 a b c n w _ (by omega) (by omega) ha hb hc hn0 hn1 hT hz hl rfl (by kernel_rfl) (by kernel_rfl) (by kernel_rfl) (by kernel_rfl) (by kernel_rfl)
      have e1 : jumpB ((27 : Nat) : Int) a b c n = false := by unfold jumpB; rw [hl]; rfl
      have e2 : jumpV ((27 : Nat) : Int) a b c n = 0 := by unfold jumpV; rw [e1]; rfl
      rw [e1, e2]
      exact q
end Go.Proofs.YtcbhkeinmdobhaaDoor

namespace Go.Proofs.YtcbhkeinmdobhaaDoor
open Go.ChangeShapes Go.WideShapes Go.ChangeAt Go.RowKit
set_option linter.unusedVariables false
set_option linter.unusedSimpArgs false

theorem rjumps_no (op a b c n : Int) (w : World) (h0 : 0 ≤ op) (h2 : op < 256) (hl : legalB op a b c n = false) :
    Calls Tryd.prog 24 #[ins op a b c n] w fun e w' => e = .returned (.tuple #[.int .i64 0, .bool false]) ∧ Below w.heap.size w w' := by
  have HL := Lib.hid hl
  clear hl
  go_enter Tryd.func24, Tryd.ntmps24
  go_wp2_with (go_at_call 26; refine (rlegal op a b c n _ h0 h2).mono ?_; rintro e w' ⟨rfl, hb1⟩; rw [HL.out])
  go_ret2
  exact ⟨rfl, (((Below.refl _ _).alloc (Nat.le_refl _) _)).trans (hb1.mono (by simp))⟩

theorem rjumps_25 (a b c n : Int) (w : World) (hl : legalB 25 a b c n = true) :
    Calls Tryd.prog 24 #[ins 25 a b c n] w fun e w' => e = .returned (.tuple #[.int .i64 (-1), .bool true]) ∧ Below w.heap.size w w' := by
  have HL := Lib.hid hl
  clear hl
  go_enter Tryd.func24, Tryd.ntmps24
  go_wp2_with (go_at_call 26; refine (rlegal 25 a b c n _ (by omega) (by omega)).mono ?_; rintro e w' ⟨rfl, hb1⟩; rw [HL.out]; (obtain ⟨bc, bf⟩ := bcell hb1); (have hx0 := bc w.heap.size 0 (by simp)); (simp [World.cell?_alloc_new] at hx0); (clear bc bf))
  go_ret2
  exact ⟨rfl, (((Below.refl _ _).alloc (Nat.le_refl _) _)).trans (hb1.mono (by simp))⟩

theorem rjumps_yes (i : Nat) (a b c n : Int) (w : World) (h1 : 1 ≤ i) (h2 : i ≤ 27) (h25 : ((i : Int) == 25) = false) (hn0 : -2147483648 ≤ n) (hn1 : n ≤ 2147483647) (hl : legalB i a b c n = true) (hh : hasB (shapeB i).data.toList 112 = true) :
    Calls Tryd.prog 24 #[ins i a b c n] w fun e w' => e = .returned (.tuple #[.int .i64 n, .bool true]) ∧ Below w.heap.size w w' := by
  have hsz := shapeB_size i h1 h2
  have hi1 : (0 : Int) ≤ (i : Int) := by omega
  have hi2 : (i : Int) < 28 := by omega
  have hi3 : (i : Int) < ((28 : Nat) : Int) := by omega
  have hw1 : IntKind.i64.wrap (i : Int) = (i : Int) := IntWalk.i64_in _ (by omega)
  have HL := Lib.hid hl
  have HH := Lib.hid hh
  clear hl hh
  go_enter Tryd.func24, Tryd.ntmps24
  go_wp2_with (go_at_call 26; refine (rlegal i a b c n _ (by omega) (by omega)).mono ?_; rintro e w' ⟨rfl, hb1⟩; rw [HL.out]; (obtain ⟨bc, bf⟩ := bcell hb1); (have hx0 := bc w.heap.size 0 (by simp)); (have hx4 := bc w.heap.size 4 (by simp)); (simp [World.cell?_alloc_new] at hx0 hx4); (have hz1 := hb1.size); (simp at hz1); (have hz2 : w.heap.size < w'.heap.size := (by omega)); (have hc := new_cell w' shapeCells 9 i _ (shapeCells_at i (by omega))); (clear bc bf))
  go_region_with (first | (go_at_call 31; refine (rshapes _).mono ?_; rintro e w4 ⟨rfl, rfl⟩; rw [← shapeCells]) | (go_at_call 36; refine (has_any (shapeB i) 112 _ hsz).mono ?_; rintro e w4 ⟨rfl, rfl⟩; rw [HH.out]))
  all_goals
    have hb2 : Below w.heap.size w w' := (((Below.refl _ _).alloc (Nat.le_refl _) _)).trans (hb1.mono (by simp))
    go_wp2
    go_ret2
    exact ⟨rfl, by go_grown⟩
theorem rjumps_o (i : Nat) (a b c n : Int) (w : World) (h1 : 1 ≤ i) (h2 : i ≤ 27) (h25 : ((i : Int) == 25) = false) (hn0 : -2147483648 ≤ n) (hn1 : n ≤ 2147483647) (hl : legalB i a b c n = true) (hh : hasB (shapeB i).data.toList 112 = false) :
    Calls Tryd.prog 24 #[ins i a b c n] w fun e w' => e = .returned (.tuple #[.int .i64 0, .bool false]) ∧ Below w.heap.size w w' := by
  have hsz := shapeB_size i h1 h2
  have hi1 : (0 : Int) ≤ (i : Int) := by omega
  have hi2 : (i : Int) < 28 := by omega
  have hi3 : (i : Int) < ((28 : Nat) : Int) := by omega
  have hw1 : IntKind.i64.wrap (i : Int) = (i : Int) := IntWalk.i64_in _ (by omega)
  have HL := Lib.hid hl
  have HH := Lib.hid hh
  clear hl hh
  go_enter Tryd.func24, Tryd.ntmps24
  go_wp2_with (go_at_call 26; refine (rlegal i a b c n _ (by omega) (by omega)).mono ?_; rintro e w' ⟨rfl, hb1⟩; rw [HL.out]; (obtain ⟨bc, bf⟩ := bcell hb1); (have hx0 := bc w.heap.size 0 (by simp)); (have hx4 := bc w.heap.size 4 (by simp)); (simp [World.cell?_alloc_new] at hx0 hx4); (have hz1 := hb1.size); (simp at hz1); (have hz2 : w.heap.size < w'.heap.size := (by omega)); (have hc := new_cell w' shapeCells 9 i _ (shapeCells_at i (by omega))); (clear bc bf))
  go_region_with (first | (go_at_call 31; refine (rshapes _).mono ?_; rintro e w4 ⟨rfl, rfl⟩; rw [← shapeCells]) | (go_at_call 36; refine (has_any (shapeB i) 112 _ hsz).mono ?_; rintro e w4 ⟨rfl, rfl⟩; rw [HH.out]))
  all_goals
    have hb2 : Below w.heap.size w w' := (((Below.refl _ _).alloc (Nat.le_refl _) _)).trans (hb1.mono (by simp))
    go_wp2
    go_ret2
    exact ⟨rfl, by go_grown⟩

theorem rjumps (op a b c n : Int) (w : World) (h0 : 0 ≤ op) (h2 : op < 256) (hn0 : -2147483648 ≤ n) (hn1 : n ≤ 2147483647) :
    Calls Tryd.prog 24 #[ins op a b c n] w fun e w' => e = .returned (.tuple #[.int .i64 (jumpV op a b c n), .bool (jumpB op a b c n)]) ∧ Below w.heap.size w w' := by
  rcases hl : legalB op a b c n with _ | _
  · have := rjumps_no op a b c n w h0 h2 hl
    simpa [jumpV, jumpB, hl] using this
  · have hr : 1 ≤ op ∧ op ≤ 27 := by
      unfold legalB at hl
      rw [Bool.and_eq_true] at hl
      simpa using hl.1
    obtain ⟨i, rfl⟩ := Int.eq_ofNat_of_zero_le h0
    by_cases h25 : i = 25
    · subst h25
      have := rjumps_25 a b c n w hl
      have e1 : jumpB ((25 : Nat) : Int) a b c n = true := by unfold jumpB; rw [hl]; rfl
      have e2 : jumpV ((25 : Nat) : Int) a b c n = -1 := by unfold jumpV; rw [e1]; rfl
      rw [e1, e2]
      exact this
    · have h25' : ((i : Int) == 25) = false := by rw [beq_eq_false_iff_ne]; omega
      rcases hh : hasB (shapeB i).data.toList 112 with _ | _
      · have q := rjumps_o i a b c n w (by omega) (by omega) h25' hn0 hn1 hl hh
        have e1 : jumpB (i : Int) a b c n = false := by
          unfold jumpB
          rw [hl, Int.toNat_natCast, ← shapeB_list, hh]
          simp; omega
        have e2 : jumpV (i : Int) a b c n = 0 := by unfold jumpV; rw [e1]; rfl
        rw [e1, e2]
        exact q
      · have q := rjumps_yes i a b c n w (by omega) (by omega) h25' hn0 hn1 hl hh
        have e1 : jumpB (i : Int) a b c n = true := by
          unfold jumpB
          rw [hl, Int.toNat_natCast, ← shapeB_list, hh]
          simp
        have e2 : jumpV (i : Int) a b c n = n := by unfold jumpV; rw [e1, if_pos rfl, if_neg (by omega)]
        rw [e1, e2]
        exact q
end Go.Proofs.YtcbhkeinmdobhaaDoor

namespace Go.Proofs.YtcbhkeinmdobhaaDoor
open Go.ChangeShapes Go.WideShapes Go.ChangeAt Go.RowKit
set_option linter.unusedVariables false
set_option linter.unusedSimpArgs false

theorem str_info : (Tryd.prog.info? 9).map (fun i => (i.zero, i.size, i.bytes)) = some (some (.string ⟨#[]⟩), 1, 16) := by kernel_rfl
theorem ownsB {B : Nat} {e : TypeId} {k : Nat} {v : Value} {n : Nat} {xs : List Value} {w w' : World} (h : w.ownsRow B e k v n xs) (hb : Below w.heap.size w w') : w'.ownsRow B e k v n xs :=
  h.kept (row := none) ⟨hb.os, hb.tape, hb.output, hb.size, fun j hj _ => hb.block j hj⟩ (by cases hv : v.ownBlock <;> simp)
/-- words of the call's own, from the world w0 on; the blocks below B and the block bb are as they were -/
structure Row (w0 : World) (B bb : Nat) (W : World) (v : Value) (xs : List ByteArray) : Prop where
  own : W.ownsRow B 9 1 v xs.length (xs.map Value.string)
  below : Below B w0 W
  keep : ∀ o, W.cell? ⟨bb, o, none⟩ = w0.cell? ⟨bb, o, none⟩
  ne : v.ownBlock ≠ some bb
  lt : bb < w0.heap.size
  le : B ≤ w0.heap.size
  small : ∀ x ∈ xs, x.size ≤ 100

theorem Row.x {w0 W : World} {B bb : Nat} {v : Value} {xs : List ByteArray} (h : Row w0 B bb W v xs) {b o : Nat} {u : Value} (hb : b < B) (hc : w0.cell? ⟨b, o, none⟩ = some u) : W.cell? ⟨b, o, none⟩ = some u := (h.below.cell (p := ⟨b, o, none⟩) hb).trans hc
theorem Row.b {w0 W : World} {B bb : Nat} {v : Value} {xs : List ByteArray} (h : Row w0 B bb W v xs) {o : Nat} {u : Value} (hc : w0.cell? ⟨bb, o, none⟩ = some u) : W.cell? ⟨bb, o, none⟩ = some u := (h.keep o).trans hc
theorem Row.on {w0 W W' : World} {B bb : Nat} {v : Value} {xs : List ByteArray} (h : Row w0 B bb W v xs) (hb : Below W.heap.size W W') : Row w0 B bb W' v xs :=
  ⟨ownsB h.own hb, h.below.trans (hb.mono (by have := h.below.size; have := h.le; omega)), fun o => (hb.cell (p := ⟨bb, o, none⟩) (by have := h.below.size; have := h.lt; show bb < _; omega)).trans (h.keep o), h.ne, h.lt, h.le, h.small⟩

theorem app1 {ops : Array Oper} {rest : List Oper} {o : Oper} {a : Act} {Q : Exit → Act → World → Prop} {w0 W : World} {B bb : Nat} {v : Value} {xs : List ByteArray} (HR : Row w0 B bb W v xs) (hgd : o.guard = none) (s x : Operand)
    (ho : o.op = .call { callee := .builtin .append, args := #[s, x], argTypes := #[47, 47] }) (y : ByteArray) (hs : a.eval s = v) (hx : a.eval x = .slice (some ⟨W.heap.size, 0, none⟩) 1 1) (hl : xs.length ≤ 1000) (hy : y.size ≤ 100)
    (h : ∀ v1 w1, Row w0 B bb w1 v1 (xs ++ [y]) → wpList Tryd.prog ops Q rest (a.put o.dst v1) w1) :
    wpList Tryd.prog ops Q (o :: rest) a (W.alloc (.cells #[.string y] 9)) := by
  obtain ⟨i0, hi, hzz⟩ := Option.map_eq_some_iff.1 str_info
  simp only [Prod.mk.injEq] at hzz
  obtain ⟨hz0, hz1, hz2⟩ := hzz
  have hsz : B ≤ W.heap.size := by have := HR.below.size; have := HR.le; omega
  refine wpList_append_own_at (W.alloc (.cells #[.string y] 9)) hgd s x 47 ho B 9 i0 (.string ⟨#[]⟩) 1 16 Tryd.underlying47 hi hz0 hz1 hz2 rfl (by omega) v xs.length (xs.map Value.string) hs (HR.own.alloc _) ⟨W.heap.size, 0, none⟩ 1 1 [.string y] hx rfl
    (World.news_of_block (cs := #[.string y]) (t := 9) (fr := (0, 0)) (heap_alloc_new W _)) (by simp [Value.oneCell']) (by simp only [maxLen]; omega) (by omega) (by simp; omega) ?_
  intro v1 w1 hown hg _ hat
  have hlt : ∀ k, v.ownBlock = some k → B ≤ k ∧ k < W.heap.size := HR.own.lt
  have hbb : bb < W.heap.size := by have := HR.below.size; have := HR.lt; omega
  refine h v1 w1 ⟨by simpa using hown, (HR.below.alloc hsz _).grown hg (by simp; omega) (fun k hk => (hlt k hk).1), fun o => ?_, ?_, HR.lt, HR.le, ?_⟩
  · rw [World.cell?_of_block (a := ⟨bb, o, none⟩) (hg.block bb (by simp; omega) (fun e => HR.ne e.symm)), World.cell?_alloc_lt _ _ _ (by exact hbb)]
    exact HR.keep o
  · rcases hat with hat | hat
    · rw [hat]; exact HR.ne
    · rw [hat]; simp; omega
  · intro z hz
    rcases List.mem_append.1 hz with h1 | h1
    · exact HR.small z h1
    · rw [List.mem_singleton.1 h1]; exact hy

theorem conv1 {ops : Array Oper} {rest : List Oper} {o : Oper} {a : Act} {Q : Exit → Act → World → Prop} {w' : World} {nm : ByteArray} (hgd : o.guard = none) (x : Operand)
    (ho : o.op = .convert 9 51 x) (s : ByteArray) (hx : a.eval x = .string s) (hnm : nm.size ≤ 100)
    (h : ∀ cap w1, Row w1 w'.heap.size (w'.heap.size + 1) w1 (.slice (some ⟨w'.heap.size, 0, none⟩) 1 1) [nm] → Below w'.heap.size w' w1 → (∀ j, j < s.size → w1.cell? ⟨w'.heap.size + 1, j, none⟩ = some (.int .u8 (s.data.toList.getD j 0).toNat)) → wpList Tryd.prog ops Q rest (a.put o.dst (.slice (some ⟨w'.heap.size + 1, 0, none⟩) s.size cap)) w1) :
    wpList Tryd.prog ops Q (o :: rest) a (w'.alloc (.cells #[.string nm] 9)) := by
  refine wpList_plain hgd fun K hK => ?_
  have hr := Lib.run_convert_string_bytes (P := Tryd.prog) (w'.alloc (.cells #[.string nm] 9)) 9 51 5 s Tryd.underlying9 Tryd.underlying51 Tryd.underlying5
  unfold Oper.wp execOp
  simp only [ho, Sem.run_bind, Sem.run_pure, Result.andThen_ok, hx, hr]
  have hs1 : (w'.alloc (.cells #[.string nm] 9)).heap.size = w'.heap.size + 1 := by simp
  have hb : Below (w'.heap.size + 1) (w'.alloc (.cells #[.string nm] 9)) (Lib.bytesWorld (w'.alloc (.cells #[.string nm] 9)) 5 s) := ⟨rfl, rfl, rfl, by rw [Lib.bytesWorld_size]; omega, fun j hj => Lib.bytesWorld_at_old _ _ _ j (by rw [hs1]; exact hj)⟩
  refine hK _ _ ?_
  rw [hs1]
  refine h _ _ ⟨?_, Below.refl _ _, fun _ => rfl, by simp [Value.ownBlock], by rw [Lib.bytesWorld_size, hs1]; omega, by rw [Lib.bytesWorld_size, hs1]; omega, by simpa using hnm⟩ ?_ ?_
  · have hl := World.ownsRow_lit (base := w'.heap.size) (e := 9) (size := 1) w' #[.string nm] 1 (Nat.le_refl _) (by simp [maxLen]) (by simp)
    exact ownsB (by simpa using hl) (by rw [hs1]; exact hb)
  · exact ((Below.refl _ _).alloc (Nat.le_refl _) _).trans (hb.mono (by omega))
  · intro j hj
    have := Lib.bytesWorld_cell (w'.alloc (.cells #[.string nm] 9)) 5 s j hj
    rw [hs1] at this
    exact this
theorem tab_below {w w' : World} (hz : 0 < w.heap.size) (hT : TabOk w) (hb : Below w.heap.size w w') : TabOk w' := fun i hi =>
  ⟨(hb.cell (p := ⟨0, i * 2, none⟩) hz).trans (hT i hi).1, (hb.cell (p := ⟨0, i * 2 + 1, none⟩) hz).trans (hT i hi).2⟩
theorem row_cells {w0 W : World} {B bb g cap : Nat} {xs : List ByteArray} (h : Row w0 B bb W (.slice (some ⟨g, 0, none⟩) xs.length cap) xs) : ∀ (j : Nat) x, xs[j]? = some x → W.cell? ⟨g, 0 + j, none⟩ = some (.string x) := by
  intro j x hx
  have := h.own.cells (g := g) rfl j (.string x) (by simp [hx])
  rwa [add_plain] at this
theorem row_cap {w0 W : World} {B bb g n cap : Nat} {xs : List ByteArray} (h : Row w0 B bb W (.slice (some ⟨g, 0, none⟩) n cap) xs) : xs.length ≤ cap := by
  rcases h.own.2 with ⟨h0, _⟩ | ⟨g', cap', cur, hv, _, _, hc, _⟩
  · cases h0
  · injection hv with _ _ h3
    omega
theorem pow10_below {w w' : World} (hP : Lib.TabIs Tryd.prog w "internal/strconv.uint64pow10" .u64 Lib.pow10Tab) (hb : Below w.heap.size w w') : Lib.TabIs Tryd.prog w' "internal/strconv.uint64pow10" .u64 Lib.pow10Tab := by
  unfold Lib.TabIs World.var? at hP ⊢
  cases hg : Tryd.prog.globalNamed "internal/strconv.uint64pow10" with
  | none => simp [hg] at hP
  | some g =>
    simp only [hg, Option.bind_some] at hP ⊢
    have hlt : g < w.heap.size := by
      rcases Nat.lt_or_ge g w.heap.size with h' | h'
      · exact h'
      · simp [Array.getElem?_eq_none h'] at hP
    rw [hb.block g hlt]
    exact hP
theorem nameB_size (i : Nat) (h1 : 1 ≤ i) (h2 : i ≤ 27) : (nameB i).size ≤ 100 := by
  have : i = 1 ∨ i = 2 ∨ i = 3 ∨ i = 4 ∨ i = 5 ∨ i = 6 ∨ i = 7 ∨ i = 8 ∨ i = 9 ∨ i = 10 ∨ i = 11 ∨ i = 12 ∨ i = 13 ∨ i = 14 ∨ i = 15 ∨ i = 16 ∨ i = 17 ∨ i = 18 ∨ i = 19 ∨ i = 20 ∨ i = 21 ∨ i = 22 ∨ i = 23 ∨ i = 24 ∨ i = 25 ∨ i = 26 ∨ i = 27 := by omega
  rcases this with rfl | rfl | rfl | rfl | rfl | rfl | rfl | rfl | rfl | rfl | rfl | rfl | rfl | rfl | rfl | rfl | rfl | rfl | rfl | rfl | rfl | rfl | rfl | rfl | rfl | rfl | rfl <;> decide
theorem tail_small : ∀ (r : List ByteArray), (∀ x ∈ r, x.size ≤ 100) → (Lib.joinTail [32] (r.map (·.data.toList))).length ≤ 101 * r.length
  | [], _ => by simp [Lib.joinTail]
  | y :: r, h => by
    have h1 := tail_small r fun x hx => h x (List.mem_cons_of_mem _ hx)
    have h2 : y.data.toList.length ≤ 100 := by simpa using h y (List.mem_cons_self ..)
    simp only [Lib.joinTail, List.map_cons, List.flatten_cons, List.length_append, List.length_cons, List.length_nil] at h1 ⊢
    omega
theorem join_small {xs : List ByteArray} (h : ∀ x ∈ xs, x.size ≤ 100) (hl : xs.length ≤ 1000) : (Lib.join (xs.map (·.data.toList)) [32]).length ≤ 140737488355328 := by
  cases xs with
  | nil => simp [Lib.join_nil]
  | cons y r =>
    have h1 := tail_small r fun x hx => h x (List.mem_cons_of_mem _ hx)
    have h2 : y.data.toList.length ≤ 100 := by simpa using h y (List.mem_cons_self ..)
    rw [List.map_cons, Lib.join_cons, List.length_append]
    simp only [List.length_cons] at hl
    omega
theorem rdig_size {d : ByteArray} (h : d.size ≤ 2) : (⟨#[114]⟩ ++ d : ByteArray).size ≤ 100 := by
  rw [ByteArray.size_append]
  show 1 + d.size ≤ 100
  omega
end Go.Proofs.YtcbhkeinmdobhaaDoor
