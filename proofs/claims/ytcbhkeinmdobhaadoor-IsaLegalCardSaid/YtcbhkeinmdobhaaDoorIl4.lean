import Derived.Test.YtcbhkeinmdobhaaDoorIl1
import Derived.Test.YtcbhkeinmdobhaaDoorIl2
import Derived.Test.YtcbhkeinmdobhaaDoorIl3
import Derived.Test.YtcbhkeinmdobhaaDoorIl5
namespace Go.Proofs.YtcbhkeinmdobhaaDoor
open Go.ChangeShapes Go.WideShapes Go.ChangeAt Go.RowKit
set_option linter.unusedVariables false
set_option linter.unusedSimpArgs false

theorem jumps_w (i : Int) (a b c n : Int) (w W : World) (T : Tabs w) (hB : Below w.heap.size w W) (h1 : 0 ≤ i) (h2 : i < 256) (ha : 0 ≤ a) (hb : 0 ≤ b) (hc : 0 ≤ c) (hn0 : -2147483648 ≤ n) (hn1 : n ≤ 2147483647) :
    Calls Tryd.prog 23 #[ins i a b c n] W fun e w' => e = .returned (.tuple #[.int .i64 (jumpV i a b c n), .bool (jumpB i a b c n)]) ∧ Below W.heap.size W w' ∧ Below w.heap.size w w' :=
  (jumps i a b c n W (by omega) (by omega) ha hb hc hn0 hn1 (T.on hB).tab (T.on hB).pos).mono fun e w' h => ⟨h.1, h.2, hB.trans (h.2.mono hB.size)⟩
theorem legal_x (i : Int) (a b c n : Int) (w W : World) (T : Tabs w) (hB : Below w.heap.size w W) (h1 : 0 ≤ i) (h2 : i < 256) (ha : 0 ≤ a) (hb : 0 ≤ b) (hc : 0 ≤ c) :
    Calls Tryd.prog 25 #[ins i a b c n] W fun e w' => e = .returned (.bool (legalB i a b c n)) ∧ Below W.heap.size W w' ∧ Below w.heap.size w w' :=
  (legal i a b c n W (by omega) (by omega) ha hb hc (T.on hB).tab (T.on hB).pos).mono fun e w' h => ⟨h.1, h.2, hB.trans (h.2.mono hB.size)⟩
set_option maxHeartbeats 4000000 in
set_option maxRecDepth 20000 in
theorem il_no_yes (i : Int) (u : Int) (w : World) (T : Tabs w) (hi : i < 1 ∨ 27 < i) (hi0 : 0 ≤ i) (hi1 : i < 256)  :
    Calls Tryd.prog 7 #[ins i 0 0 0 0] w fun e w' => e = .returned (.bool true) ∧ Below w.heap.size w w' := by
  have hl : legalB i 0 0 0 0 = false := by
    unfold legalB
    have : ¬ (1 ≤ i ∧ i ≤ 27) := by omega
    simp [this]
  have hj : jumpB i 0 0 0 0 = false := by
    unfold jumpB
    rw [hl]
    rfl
  have hv : jumpV i 0 0 0 0 = 0 := by
    unfold jumpV
    rw [hj]
    rfl
  have hB0 : Below w.heap.size w (w.alloc (.cells #[.int .u8 i, .int .u8 0, .int .u8 0, .int .u8 0, .int .i32 0] 26)) := (Below.refl _ _).alloc (Nat.le_refl _) _
  have hqq := eq5 i 0 0 0 0
  have HI := Lib.hid hi
  have HL := Lib.hid hl
  have HJ := Lib.hid hj
  have HV := Lib.hid hv
  clear hi hl hj hv
  go_enter Tryd.func7, Tryd.ntmps7
  go_wp2_with (first | (go_at_call 13; refine (shape_no i _ HI.out hi0 hi1).mono ?_; rintro e w' ⟨rfl, rfl⟩) | (go_at_call 11; refine (name_no i _ HI.out hi0 hi1).mono ?_; rintro e w' ⟨rfl, rfl⟩) | (go_at_call 27; refine (plain_none _ _ _ _ _ _).mono ?_; rintro e w3 ⟨rfl, hb3⟩; (have hB3 : Below w.heap.size w w3 := (((Below.refl _ _).alloc (Nat.le_refl _) _)).trans (hb3.mono (by simp))); (obtain ⟨bc, bf⟩ := bcell hb3); (have hx0 := bc w.heap.size 0 (by simp)); (simp [World.cell?_alloc_new] at hx0); (have hx1 := bc w.heap.size 1 (by simp)); (simp [World.cell?_alloc_new] at hx1); (have hx2 := bc w.heap.size 2 (by simp)); (simp [World.cell?_alloc_new] at hx2); (have hx3 := bc w.heap.size 3 (by simp)); (simp [World.cell?_alloc_new] at hx3); (have hx4 := bc w.heap.size 4 (by simp)); (simp [World.cell?_alloc_new] at hx4); (have hz1 := hb3.size); (try simp at hz1); (have hz2 : w.heap.size < w3.heap.size := (by omega)); (clear bc bf hz1)) | (go_at_call 23; go_loud (refine (jumps_w i 0 0 0 0 w _ T (by go_grown) (by omega) (by omega) (by omega) (by omega) (by omega) (by omega) (by omega)).mono ?_; rintro e w5 ⟨rfl, hb5, hB5⟩; rw [HJ.out, HV.out]; (obtain ⟨bc, bf⟩ := bcell hb5); (have hx0 := (bc w.heap.size 0 (by simp; omega)).trans ((World.cell?_alloc_lt _ _ ⟨w.heap.size, 0, none⟩ hz2).trans hx0)); (have hx1 := (bc w.heap.size 1 (by simp; omega)).trans ((World.cell?_alloc_lt _ _ ⟨w.heap.size, 1, none⟩ hz2).trans hx1)); (have hx2 := (bc w.heap.size 2 (by simp; omega)).trans ((World.cell?_alloc_lt _ _ ⟨w.heap.size, 2, none⟩ hz2).trans hx2)); (have hx3 := (bc w.heap.size 3 (by simp; omega)).trans ((World.cell?_alloc_lt _ _ ⟨w.heap.size, 3, none⟩ hz2).trans hx3)); (have hx4 := (bc w.heap.size 4 (by simp; omega)).trans ((World.cell?_alloc_lt _ _ ⟨w.heap.size, 4, none⟩ hz2).trans hx4)); (have hz1 := hb5.size); (try simp at hz1); (have hz2 : w.heap.size < w5.heap.size := (by omega)); (clear bc bf hz1))) | (go_at_call 17; go_loud (refine (known_w w _ T (by first | exact hB5 | go_grown)).mono ?_; rintro e w6 ⟨rfl, hb6, hB6⟩; (obtain ⟨bc, bf⟩ := bcell hb6); (have hx0 := (bc w.heap.size 0 hz2).trans hx0); (have hx1 := (bc w.heap.size 1 hz2).trans hx1); (have hx2 := (bc w.heap.size 2 hz2).trans hx2); (have hx3 := (bc w.heap.size 3 hz2).trans hx3); (have hx4 := (bc w.heap.size 4 hz2).trans hx4); (have hz1 := hb6.size); (try simp at hz1); (have hz2 : w.heap.size < w6.heap.size := (by omega)); (clear bc bf hz1))) | (go_at_call 25; go_loud (refine (legal_x i 0 0 0 0 w _ T (by first | exact hB6 | go_grown) (by omega) (by omega) (by omega) (by omega) (by omega)).mono ?_; rintro e w7 ⟨rfl, hb7, hB7⟩; rw [HL.out]; (obtain ⟨bc, bf⟩ := bcell hb7); (have hx0 := (bc w.heap.size 0 hz2).trans hx0); (have hx1 := (bc w.heap.size 1 hz2).trans hx1); (have hx2 := (bc w.heap.size 2 hz2).trans hx2); (have hx3 := (bc w.heap.size 3 hz2).trans hx3); (have hx4 := (bc w.heap.size 4 hz2).trans hx4); (have hz1 := hb7.size); (try simp at hz1); (have hz2 : w.heap.size < w7.heap.size := (by omega)); (clear bc bf hz1))))
  all_goals
    refine wp_loop_rounds 1 ?_
    repeat any_goals (rw [rounds_succ]; go_wp2_with (first | (go_at_call 13; refine (shape_no i _ HI.out hi0 hi1).mono ?_; rintro e w' ⟨rfl, rfl⟩) | (go_at_call 11; refine (name_no i _ HI.out hi0 hi1).mono ?_; rintro e w' ⟨rfl, rfl⟩) | (go_at_call 27; refine (plain_none _ _ _ _ _ _).mono ?_; rintro e w3 ⟨rfl, hb3⟩; (have hB3 : Below w.heap.size w w3 := (((Below.refl _ _).alloc (Nat.le_refl _) _)).trans (hb3.mono (by simp))); (obtain ⟨bc, bf⟩ := bcell hb3); (have hx0 := bc w.heap.size 0 (by simp)); (simp [World.cell?_alloc_new] at hx0); (have hx1 := bc w.heap.size 1 (by simp)); (simp [World.cell?_alloc_new] at hx1); (have hx2 := bc w.heap.size 2 (by simp)); (simp [World.cell?_alloc_new] at hx2); (have hx3 := bc w.heap.size 3 (by simp)); (simp [World.cell?_alloc_new] at hx3); (have hx4 := bc w.heap.size 4 (by simp)); (simp [World.cell?_alloc_new] at hx4); (have hz1 := hb3.size); (try simp at hz1); (have hz2 : w.heap.size < w3.heap.size := (by omega)); (clear bc bf hz1)) | (go_at_call 23; go_loud (refine (jumps_w i 0 0 0 0 w _ T (by go_grown) (by omega) (by omega) (by omega) (by omega) (by omega) (by omega) (by omega)).mono ?_; rintro e w5 ⟨rfl, hb5, hB5⟩; rw [HJ.out, HV.out]; (obtain ⟨bc, bf⟩ := bcell hb5); (have hx0 := (bc w.heap.size 0 (by simp; omega)).trans ((World.cell?_alloc_lt _ _ ⟨w.heap.size, 0, none⟩ hz2).trans hx0)); (have hx1 := (bc w.heap.size 1 (by simp; omega)).trans ((World.cell?_alloc_lt _ _ ⟨w.heap.size, 1, none⟩ hz2).trans hx1)); (have hx2 := (bc w.heap.size 2 (by simp; omega)).trans ((World.cell?_alloc_lt _ _ ⟨w.heap.size, 2, none⟩ hz2).trans hx2)); (have hx3 := (bc w.heap.size 3 (by simp; omega)).trans ((World.cell?_alloc_lt _ _ ⟨w.heap.size, 3, none⟩ hz2).trans hx3)); (have hx4 := (bc w.heap.size 4 (by simp; omega)).trans ((World.cell?_alloc_lt _ _ ⟨w.heap.size, 4, none⟩ hz2).trans hx4)); (have hz1 := hb5.size); (try simp at hz1); (have hz2 : w.heap.size < w5.heap.size := (by omega)); (clear bc bf hz1))) | (go_at_call 17; go_loud (refine (known_w w _ T (by first | exact hB5 | go_grown)).mono ?_; rintro e w6 ⟨rfl, hb6, hB6⟩; (obtain ⟨bc, bf⟩ := bcell hb6); (have hx0 := (bc w.heap.size 0 hz2).trans hx0); (have hx1 := (bc w.heap.size 1 hz2).trans hx1); (have hx2 := (bc w.heap.size 2 hz2).trans hx2); (have hx3 := (bc w.heap.size 3 hz2).trans hx3); (have hx4 := (bc w.heap.size 4 hz2).trans hx4); (have hz1 := hb6.size); (try simp at hz1); (have hz2 : w.heap.size < w6.heap.size := (by omega)); (clear bc bf hz1))) | (go_at_call 25; go_loud (refine (legal_x i 0 0 0 0 w _ T (by first | exact hB6 | go_grown) (by omega) (by omega) (by omega) (by omega) (by omega)).mono ?_; rintro e w7 ⟨rfl, hb7, hB7⟩; rw [HL.out]; (obtain ⟨bc, bf⟩ := bcell hb7); (have hx0 := (bc w.heap.size 0 hz2).trans hx0); (have hx1 := (bc w.heap.size 1 hz2).trans hx1); (have hx2 := (bc w.heap.size 2 hz2).trans hx2); (have hx3 := (bc w.heap.size 3 hz2).trans hx3); (have hx4 := (bc w.heap.size 4 hz2).trans hx4); (have hz1 := hb7.size); (try simp at hz1); (have hz2 : w.heap.size < w7.heap.size := (by omega)); (clear bc bf hz1)))))
  all_goals go_ret
  all_goals exact ⟨by first | rfl | (simp; omega), by go_grown⟩
set_option maxHeartbeats 4000000 in
set_option maxRecDepth 20000 in
theorem il_no_mixed (i : Int) (a b c n u : Int) (w : World) (T : Tabs w) (hi : i < 1 ∨ 27 < i) (hi0 : 0 ≤ i) (hi1 : i < 256) (ha0 : 0 ≤ a) (ha1 : a < 256) (hb0 : 0 ≤ b) (hb1 : b < 256) (hc0 : 0 ≤ c) (hc1 : c < 256) (hn0 : -2147483648 ≤ n) (hn1 : n ≤ 2147483647) (hq : ¬ (a = 0 ∧ b = 0 ∧ c = 0 ∧ n = 0)) :
    Calls Tryd.prog 7 #[ins i a b c n] w fun e w' => e = .returned (.bool true) ∧ Below w.heap.size w w' := by
  have hl : legalB i a b c n = false := by
    unfold legalB
    have : ¬ (1 ≤ i ∧ i ≤ 27) := by omega
    simp [this]
  have hj : jumpB i a b c n = false := by
    unfold jumpB
    rw [hl]
    rfl
  have hv : jumpV i a b c n = 0 := by
    unfold jumpV
    rw [hj]
    rfl
  have hB0 : Below w.heap.size w (w.alloc (.cells #[.int .u8 i, .int .u8 a, .int .u8 b, .int .u8 c, .int .i32 n] 26)) := (Below.refl _ _).alloc (Nat.le_refl _) _
  have hqq := eq5no i a b c n hq
  have HI := Lib.hid hi
  have HL := Lib.hid hl
  have HJ := Lib.hid hj
  have HV := Lib.hid hv
  clear hi hl hj hv
  go_enter Tryd.func7, Tryd.ntmps7
  go_wp2_with (first | (go_at_call 13; refine (shape_no i _ HI.out hi0 hi1).mono ?_; rintro e w' ⟨rfl, rfl⟩) | (go_at_call 11; refine (name_no i _ HI.out hi0 hi1).mono ?_; rintro e w' ⟨rfl, rfl⟩) | (go_at_call 27; refine (plain_none _ _ _ _ _ _).mono ?_; rintro e w3 ⟨rfl, hb3⟩; (have hB3 : Below w.heap.size w w3 := (((Below.refl _ _).alloc (Nat.le_refl _) _)).trans (hb3.mono (by simp))); (obtain ⟨bc, bf⟩ := bcell hb3); (have hx0 := bc w.heap.size 0 (by simp)); (simp [World.cell?_alloc_new] at hx0); (have hx1 := bc w.heap.size 1 (by simp)); (simp [World.cell?_alloc_new] at hx1); (have hx2 := bc w.heap.size 2 (by simp)); (simp [World.cell?_alloc_new] at hx2); (have hx3 := bc w.heap.size 3 (by simp)); (simp [World.cell?_alloc_new] at hx3); (have hx4 := bc w.heap.size 4 (by simp)); (simp [World.cell?_alloc_new] at hx4); (have hz1 := hb3.size); (try simp at hz1); (have hz2 : w.heap.size < w3.heap.size := (by omega)); (clear bc bf hz1)) | (go_at_call 23; go_loud (refine (jumps_w i a b c n w _ T (by go_grown) (by omega) (by omega) (by omega) (by omega) (by omega) (by omega) (by omega)).mono ?_; rintro e w5 ⟨rfl, hb5, hB5⟩; rw [HJ.out, HV.out]; (obtain ⟨bc, bf⟩ := bcell hb5); (have hx0 := (bc w.heap.size 0 (by simp; omega)).trans ((World.cell?_alloc_lt _ _ ⟨w.heap.size, 0, none⟩ hz2).trans hx0)); (have hx1 := (bc w.heap.size 1 (by simp; omega)).trans ((World.cell?_alloc_lt _ _ ⟨w.heap.size, 1, none⟩ hz2).trans hx1)); (have hx2 := (bc w.heap.size 2 (by simp; omega)).trans ((World.cell?_alloc_lt _ _ ⟨w.heap.size, 2, none⟩ hz2).trans hx2)); (have hx3 := (bc w.heap.size 3 (by simp; omega)).trans ((World.cell?_alloc_lt _ _ ⟨w.heap.size, 3, none⟩ hz2).trans hx3)); (have hx4 := (bc w.heap.size 4 (by simp; omega)).trans ((World.cell?_alloc_lt _ _ ⟨w.heap.size, 4, none⟩ hz2).trans hx4)); (have hz1 := hb5.size); (try simp at hz1); (have hz2 : w.heap.size < w5.heap.size := (by omega)); (clear bc bf hz1))) | (go_at_call 17; go_loud (refine (known_w w _ T (by first | exact hB5 | go_grown)).mono ?_; rintro e w6 ⟨rfl, hb6, hB6⟩; (obtain ⟨bc, bf⟩ := bcell hb6); (have hx0 := (bc w.heap.size 0 hz2).trans hx0); (have hx1 := (bc w.heap.size 1 hz2).trans hx1); (have hx2 := (bc w.heap.size 2 hz2).trans hx2); (have hx3 := (bc w.heap.size 3 hz2).trans hx3); (have hx4 := (bc w.heap.size 4 hz2).trans hx4); (have hz1 := hb6.size); (try simp at hz1); (have hz2 : w.heap.size < w6.heap.size := (by omega)); (clear bc bf hz1))) | (go_at_call 25; go_loud (refine (legal_x i a b c n w _ T (by first | exact hB6 | go_grown) (by omega) (by omega) (by omega) (by omega) (by omega)).mono ?_; rintro e w7 ⟨rfl, hb7, hB7⟩; rw [HL.out]; (obtain ⟨bc, bf⟩ := bcell hb7); (have hx0 := (bc w.heap.size 0 hz2).trans hx0); (have hx1 := (bc w.heap.size 1 hz2).trans hx1); (have hx2 := (bc w.heap.size 2 hz2).trans hx2); (have hx3 := (bc w.heap.size 3 hz2).trans hx3); (have hx4 := (bc w.heap.size 4 hz2).trans hx4); (have hz1 := hb7.size); (try simp at hz1); (have hz2 : w.heap.size < w7.heap.size := (by omega)); (clear bc bf hz1))))
  all_goals
    refine wp_loop_rounds 1 ?_
    repeat any_goals (rw [rounds_succ]; go_wp2_with (first | (go_at_call 13; refine (shape_no i _ HI.out hi0 hi1).mono ?_; rintro e w' ⟨rfl, rfl⟩) | (go_at_call 11; refine (name_no i _ HI.out hi0 hi1).mono ?_; rintro e w' ⟨rfl, rfl⟩) | (go_at_call 27; refine (plain_none _ _ _ _ _ _).mono ?_; rintro e w3 ⟨rfl, hb3⟩; (have hB3 : Below w.heap.size w w3 := (((Below.refl _ _).alloc (Nat.le_refl _) _)).trans (hb3.mono (by simp))); (obtain ⟨bc, bf⟩ := bcell hb3); (have hx0 := bc w.heap.size 0 (by simp)); (simp [World.cell?_alloc_new] at hx0); (have hx1 := bc w.heap.size 1 (by simp)); (simp [World.cell?_alloc_new] at hx1); (have hx2 := bc w.heap.size 2 (by simp)); (simp [World.cell?_alloc_new] at hx2); (have hx3 := bc w.heap.size 3 (by simp)); (simp [World.cell?_alloc_new] at hx3); (have hx4 := bc w.heap.size 4 (by simp)); (simp [World.cell?_alloc_new] at hx4); (have hz1 := hb3.size); (try simp at hz1); (have hz2 : w.heap.size < w3.heap.size := (by omega)); (clear bc bf hz1)) | (go_at_call 23; go_loud (refine (jumps_w i a b c n w _ T (by go_grown) (by omega) (by omega) (by omega) (by omega) (by omega) (by omega) (by omega)).mono ?_; rintro e w5 ⟨rfl, hb5, hB5⟩; rw [HJ.out, HV.out]; (obtain ⟨bc, bf⟩ := bcell hb5); (have hx0 := (bc w.heap.size 0 (by simp; omega)).trans ((World.cell?_alloc_lt _ _ ⟨w.heap.size, 0, none⟩ hz2).trans hx0)); (have hx1 := (bc w.heap.size 1 (by simp; omega)).trans ((World.cell?_alloc_lt _ _ ⟨w.heap.size, 1, none⟩ hz2).trans hx1)); (have hx2 := (bc w.heap.size 2 (by simp; omega)).trans ((World.cell?_alloc_lt _ _ ⟨w.heap.size, 2, none⟩ hz2).trans hx2)); (have hx3 := (bc w.heap.size 3 (by simp; omega)).trans ((World.cell?_alloc_lt _ _ ⟨w.heap.size, 3, none⟩ hz2).trans hx3)); (have hx4 := (bc w.heap.size 4 (by simp; omega)).trans ((World.cell?_alloc_lt _ _ ⟨w.heap.size, 4, none⟩ hz2).trans hx4)); (have hz1 := hb5.size); (try simp at hz1); (have hz2 : w.heap.size < w5.heap.size := (by omega)); (clear bc bf hz1))) | (go_at_call 17; go_loud (refine (known_w w _ T (by first | exact hB5 | go_grown)).mono ?_; rintro e w6 ⟨rfl, hb6, hB6⟩; (obtain ⟨bc, bf⟩ := bcell hb6); (have hx0 := (bc w.heap.size 0 hz2).trans hx0); (have hx1 := (bc w.heap.size 1 hz2).trans hx1); (have hx2 := (bc w.heap.size 2 hz2).trans hx2); (have hx3 := (bc w.heap.size 3 hz2).trans hx3); (have hx4 := (bc w.heap.size 4 hz2).trans hx4); (have hz1 := hb6.size); (try simp at hz1); (have hz2 : w.heap.size < w6.heap.size := (by omega)); (clear bc bf hz1))) | (go_at_call 25; go_loud (refine (legal_x i a b c n w _ T (by first | exact hB6 | go_grown) (by omega) (by omega) (by omega) (by omega) (by omega)).mono ?_; rintro e w7 ⟨rfl, hb7, hB7⟩; rw [HL.out]; (obtain ⟨bc, bf⟩ := bcell hb7); (have hx0 := (bc w.heap.size 0 hz2).trans hx0); (have hx1 := (bc w.heap.size 1 hz2).trans hx1); (have hx2 := (bc w.heap.size 2 hz2).trans hx2); (have hx3 := (bc w.heap.size 3 hz2).trans hx3); (have hx4 := (bc w.heap.size 4 hz2).trans hx4); (have hz1 := hb7.size); (try simp at hz1); (have hz2 : w.heap.size < w7.heap.size := (by omega)); (clear bc bf hz1)))))
  all_goals go_ret
  all_goals exact ⟨by first | rfl | (simp; omega), by go_grown⟩
theorem isaLegal_walk (op a b c n : Int) (w : World) (T : Tabs w) (hi0 : 0 ≤ op) (hi1 : op < 256) (ha0 : 0 ≤ a) (ha1 : a < 256) (hb0 : 0 ≤ b) (hb1 : b < 256) (hc0 : 0 ≤ c) (hc1 : c < 256) (hn0 : -2147483648 ≤ n) (hn1 : n ≤ 2147483647) :
    Calls Tryd.prog 7 #[ins op a b c n] w fun e w' => e = .returned (.bool true) ∧ Below w.heap.size w w' := by
  by_cases h : 1 ≤ op ∧ op ≤ 27
  · obtain ⟨i, rfl⟩ := Int.eq_ofNat_of_zero_le hi0
    rcases shape_cases i (by omega) (by omega) with h | h | h | h | h | h | h | h | h
    · exact il_none i a b c n w T (by omega) (by omega) h ha0 ha1 hb0 hb1 hc0 hc1 hn0 hn1
    · exact il_an i a b c n w T (by omega) (by omega) h ha0 ha1 hb0 hb1 hc0 hc1 hn0 hn1
    · exact il_ab i a b c n w T (by omega) (by omega) h ha0 ha1 hb0 hb1 hc0 hc1 hn0 hn1
    · exact il_abn i a b c n w T (by omega) (by omega) h ha0 ha1 hb0 hb1 hc0 hc1 hn0 hn1
    · exact il_abc i a b c n w T (by omega) (by omega) h ha0 ha1 hb0 hb1 hc0 hc1 hn0 hn1
    · exact il_p i a b c n w T (by omega) (by omega) h ha0 ha1 hb0 hb1 hc0 hc1 hn0 hn1
    · exact il_ap i a b c n w T (by omega) (by omega) h ha0 ha1 hb0 hb1 hc0 hc1 hn0 hn1
    · exact il_a i a b c n w T (by omega) (by omega) h ha0 ha1 hb0 hb1 hc0 hc1 hn0 hn1
    · exact il_n i a b c n w T (by omega) (by omega) h ha0 ha1 hb0 hb1 hc0 hc1 hn0 hn1
  · by_cases hq : a = 0 ∧ b = 0 ∧ c = 0 ∧ n = 0
    · obtain ⟨rfl, rfl, rfl, rfl⟩ := hq
      exact il_no_yes op 0 w T (by omega) hi0 hi1
    · exact il_no_mixed op a b c n 0 w T (by omega) hi0 hi1 ha0 ha1 hb0 hb1 hc0 hc1 hn0 hn1 hq
set_option maxRecDepth 100000 in
theorem isaLegal_any {H : Type} (enc : TypeId × Value → H) (W : World) {base : Nat} {v0 : Value} {d0 : DataW H} {p0 : List MemPlace} (o0 : Value.okWide Tryd.prog W .any base 26 v0) (h0 : DataW.Trod enc Tryd.prog W 0 (fun _ => true) true 26 v0 d0 p0)
    (hsz : ∀ x ∈ DataW.weightsEach Tryd.prog [26] [d0], x ≤ reachBytes) (hL : laidMetH Tryd.prog Rows.isaLegalRow.laid W) :
    Calls Tryd.prog 7 #[v0] W fun e w' => e = .returned (.bool true) ∧ Below W.heap.size W w' := by
  obtain ⟨o, a, b, c, n, rfl, ho, ha, hb, hc, hn0, hn1⟩ := open_instr o0 h0
  exact isaLegal_walk o a b c n W (tabs_laid (by kernel_rfl) hL (by simp [Rows.isaLegalRow]) (by simp [Rows.isaLegalRow])) ho.1 ho.2 ha.1 ha.2 hb.1 hb.2 hc.1 hc.2 hn0 hn1
end Go.Proofs.YtcbhkeinmdobhaaDoor
