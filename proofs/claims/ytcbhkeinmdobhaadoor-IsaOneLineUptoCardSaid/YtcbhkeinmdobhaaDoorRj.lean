import Derived.Test.YtcbhkeinmdobhaaDoorJu
namespace Go.Proofs.YtcbhkeinmdobhaaDoor
open Go.ChangeShapes Go.WideShapes Go.ChangeAt Go.RowKit
set_option linter.unusedVariables false
set_option linter.unusedSimpArgs false

theorem rjumps_no (op a b c n : Int) (w : World) (h0 : 0 ≤ op) (h2 : op < 256) (hl : legalB op a b c n = false) :
    Calls Tryd.prog 24 #[ins op a b c n] w fun e w' => e = .returned (.tuple #[.int .i64 0, .bool false]) ∧ Below w.heap.size w w' := by
  have HL := Lib.hid hl
  clear hl
  go_enter Tryd.func24, Tryd.ntmps24
  go_wp2_with (go_at_call 26; refine (rlegal op a b c n _ h0 h2).mono ?_; rintro e w' ⟨rfl, hb1⟩; rw [HL.out])
  go_ret2
  exact ⟨rfl, (((Below.refl _ _).alloc (Nat.le_refl _) _)).trans (hb1.mono (by simp))⟩

theorem rjumps_25 (a b c n : Int) (w : World) (hl : legalB 25 a b c n = true) :
    Calls Tryd.prog 24 #[ins 25 a b c n] w fun e w' => e = .returned (.tuple #[.int .i64 (-1), .bool true]) ∧ Below w.heap.size w w' := by
  have HL := Lib.hid hl
  clear hl
  go_enter Tryd.func24, Tryd.ntmps24
  go_wp2_with (go_at_call 26; refine (rlegal 25 a b c n _ (by omega) (by omega)).mono ?_; rintro e w' ⟨rfl, hb1⟩; rw [HL.out]; (obtain ⟨bc, bf⟩ := bcell hb1); (have hx0 := bc w.heap.size 0 (by simp)); (simp [World.cell?_alloc_new] at hx0); (clear bc bf))
  go_ret2
  exact ⟨rfl, (((Below.refl _ _).alloc (Nat.le_refl _) _)).trans (hb1.mono (by simp))⟩

theorem rjumps_yes (i : Nat) (a b c n : Int) (w : World) (h1 : 1 ≤ i) (h2 : i ≤ 27) (h25 : ((i : Int) == 25) = false) (hn0 : -2147483648 ≤ n) (hn1 : n ≤ 2147483647) (hl : legalB i a b c n = true) (hh : hasB (shapeB i).data.toList 112 = true) :
    Calls Tryd.prog 24 #[ins i a b c n] w fun e w' => e = .returned (.tuple #[.int .i64 n, .bool true]) ∧ Below w.heap.size w w' := by
  have hsz := shapeB_size i h1 h2
  have hi1 : (0 : Int) ≤ (i : Int) := by omega
  have hi2 : (i : Int) < 28 := by omega
  have hi3 : (i : Int) < ((28 : Nat) : Int) := by omega
  have hw1 : IntKind.i64.wrap (i : Int) = (i : Int) := IntWalk.i64_in _ (by omega)
  have HL := Lib.hid hl
  have HH := Lib.hid hh
  clear hl hh
  go_enter Tryd.func24, Tryd.ntmps24
  go_wp2_with (go_at_call 26; refine (rlegal i a b c n _ (by omega) (by omega)).mono ?_; rintro e w' ⟨rfl, hb1⟩; rw [HL.out]; (obtain ⟨bc, bf⟩ := bcell hb1); (have hx0 := bc w.heap.size 0 (by simp)); (have hx4 := bc w.heap.size 4 (by simp)); (simp [World.cell?_alloc_new] at hx0 hx4); (have hz1 := hb1.size); (simp at hz1); (have hz2 : w.heap.size < w'.heap.size := (by omega)); (have hc := new_cell w' shapeCells 9 i _ (shapeCells_at i (by omega))); (clear bc bf))
  go_region_with (first | (go_at_call 31; refine (rshapes _).mono ?_; rintro e w4 ⟨rfl, rfl⟩; rw [← shapeCells]) | (go_at_call 36; refine (has_any (shapeB i) 112 _ hsz).mono ?_; rintro e w4 ⟨rfl, rfl⟩; rw [HH.out]))
  all_goals
    have hb2 : Below w.heap.size w w' := (((Below.refl _ _).alloc (Nat.le_refl _) _)).trans (hb1.mono (by simp))
    go_wp2
    go_ret2
    exact ⟨rfl, by go_grown⟩
theorem rjumps_o (i : Nat) (a b c n : Int) (w : World) (h1 : 1 ≤ i) (h2 : i ≤ 27) (h25 : ((i : Int) == 25) = false) (hn0 : -2147483648 ≤ n) (hn1 : n ≤ 2147483647) (hl : legalB i a b c n = true) (hh : hasB (shapeB i).data.toList 112 = false) :
    Calls Tryd.prog 24 #[ins i a b c n] w fun e w' => e = .returned (.tuple #[.int .i64 0, .bool false]) ∧ Below w.heap.size w w' := by
  have hsz := shapeB_size i h1 h2
  have hi1 : (0 : Int) ≤ (i : Int) := by omega
  have hi2 : (i : Int) < 28 := by omega
  have hi3 : (i : Int) < ((28 : Nat) : Int) := by omega
  have hw1 : IntKind.i64.wrap (i : Int) = (i : Int) := IntWalk.i64_in _ (by omega)
  have HL := Lib.hid hl
  have HH := Lib.hid hh
  clear hl hh
  go_enter Tryd.func24, Tryd.ntmps24
  go_wp2_with (go_at_call 26; refine (rlegal i a b c n _ (by omega) (by omega)).mono ?_; rintro e w' ⟨rfl, hb1⟩; rw [HL.out]; (obtain ⟨bc, bf⟩ := bcell hb1); (have hx0 := bc w.heap.size 0 (by simp)); (have hx4 := bc w.heap.size 4 (by simp)); (simp [World.cell?_alloc_new] at hx0 hx4); (have hz1 := hb1.size); (simp at hz1); (have hz2 : w.heap.size < w'.heap.size := (by omega)); (have hc := new_cell w' shapeCells 9 i _ (shapeCells_at i (by omega))); (clear bc bf))
  go_region_with (first | (go_at_call 31; refine (rshapes _).mono ?_; rintro e w4 ⟨rfl, rfl⟩; rw [← shapeCells]) | (go_at_call 36; refine (has_any (shapeB i) 112 _ hsz).mono ?_; rintro e w4 ⟨rfl, rfl⟩; rw [HH.out]))
  all_goals
    have hb2 : Below w.heap.size w w' := (((Below.refl _ _).alloc (Nat.le_refl _) _)).trans (hb1.mono (by simp))
    go_wp2
    go_ret2
    exact ⟨rfl, by go_grown⟩

theorem rjumps (op a b c n : Int) (w : World) (h0 : 0 ≤ op) (h2 : op < 256) (hn0 : -2147483648 ≤ n) (hn1 : n ≤ 2147483647) :
    Calls Tryd.prog 24 #[ins op a b c n] w fun e w' => e = .returned (.tuple #[.int .i64 (jumpV op a b c n), .bool (jumpB op a b c n)]) ∧ Below w.heap.size w w' := by
  rcases hl : legalB op a b c n with _ | _
  · have := rjumps_no op a b c n w h0 h2 hl
    simpa [jumpV, jumpB, hl] using this
  · have hr : 1 ≤ op ∧ op ≤ 27 := by
      unfold legalB at hl
      rw [Bool.and_eq_true] at hl
      simpa using hl.1
    obtain ⟨i, rfl⟩ := Int.eq_ofNat_of_zero_le h0
    by_cases h25 : i = 25
    · subst h25
      have := rjumps_25 a b c n w hl
      have e1 : jumpB ((25 : Nat) : Int) a b c n = true := by unfold jumpB; rw [hl]; rfl
      have e2 : jumpV ((25 : Nat) : Int) a b c n = -1 := by unfold jumpV; rw [e1]; rfl
      rw [e1, e2]
      exact this
    · have h25' : ((i : Int) == 25) = false := by rw [beq_eq_false_iff_ne]; omega
      rcases hh : hasB (shapeB i).data.toList 112 with _ | _
      · have q := rjumps_o i a b c n w (by omega) (by omega) h25' hn0 hn1 hl hh
        have e1 : jumpB (i : Int) a b c n = false := by
          unfold jumpB
          rw [hl, Int.toNat_natCast, ← shapeB_list, hh]
          simp; omega
        have e2 : jumpV (i : Int) a b c n = 0 := by unfold jumpV; rw [e1]; rfl
        rw [e1, e2]
        exact q
      · have q := rjumps_yes i a b c n w (by omega) (by omega) h25' hn0 hn1 hl hh
        have e1 : jumpB (i : Int) a b c n = true := by
          unfold jumpB
          rw [hl, Int.toNat_natCast, ← shapeB_list, hh]
          simp
        have e2 : jumpV (i : Int) a b c n = n := by unfold jumpV; rw [e1, if_pos rfl, if_neg (by omega)]
        rw [e1, e2]
        exact q
end Go.Proofs.YtcbhkeinmdobhaaDoor
