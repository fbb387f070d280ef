import Derived.Test.YtcbhkeinmdobhaaDoorIl0
namespace Go.Proofs.YtcbhkeinmdobhaaDoor
open Go.ChangeShapes Go.WideShapes Go.ChangeAt Go.RowKit
set_option linter.unusedVariables false
set_option linter.unusedSimpArgs false

set_option maxHeartbeats 4000000 in
set_option maxRecDepth 20000 in
theorem il_a_yes (i : Nat) (a u : Int) (w : World) (T : Tabs w) (h1 : 1 ≤ i) (h2 : i ≤ 27) (hs : shapeB i = ⟨#[97]⟩) (ha0 : 0 ≤ a) (ha1 : a < 256) (qa : a < 16) :
    Calls Tryd.prog 7 #[ins i a 0 0 0] w fun e w' => e = .returned (.bool true) ∧ Below w.heap.size w w' := by
  have hl : legalB i a 0 0 0 = true := by
    rw [legal_at i a 0 0 0 #[97] h1 h2 hs]
    simp [legalS, regOk, hasB]
    try omega
  have h25 : i = 25 := by
    exact only25 i h1 h2 hs
  have hj : jumpB i a 0 0 0 = true := by
    rw [jumpB_at i a 0 0 0 #[97] h1 h2 hs, hl]
    simp [hasB, h25]
  have hv : jumpV i a 0 0 0 = -1 := by
    unfold jumpV
    rw [hj]
    rw [if_pos rfl, if_pos (by omega)]
  have hB0 : Below w.heap.size w (w.alloc (.cells #[.int .u8 i, .int .u8 a, .int .u8 0, .int .u8 0, .int .i32 0] 26)) := (Below.refl _ _).alloc (Nat.le_refl _) _
  have hn' := ((T.on hB0).tab i (by omega)).1
  have hs' := ((T.on hB0).tab i (by omega)).2
  have hjm : ((nameB i).toList == [106, 109, 114]) = true := by subst h25; kernel_rfl
  have hqq := eq5 i 0 0 0 0
  have HS := Lib.hid hs
  have HL := Lib.hid hl
  have HJ := Lib.hid hj
  have HV := Lib.hid hv
  clear hs hl hj hv h25
  have E0 : ((⟨#[97]⟩ : ByteArray)[0]'(by decide)).toNat = 97 := rfl
  go_enter Tryd.func7, Tryd.ntmps7
  go_wp2_with (first | (go_at_call 13; refine (shape_yes i _ h1 h2 hs').mono ?_; rintro e w' ⟨rfl, rfl⟩; rw [HS.out]) | (go_at_call 11; refine (name_yes i _ h1 h2 hn').mono ?_; rintro e w' ⟨rfl, rfl⟩) | (go_at_call 27; refine (plain_a _ _ _ _ _ _).mono ?_; rintro e w3 ⟨rfl, hb3⟩; (have hB3 : Below w.heap.size w w3 := (((Below.refl _ _).alloc (Nat.le_refl _) _)).trans (hb3.mono (by simp))); (obtain ⟨bc, bf⟩ := bcell hb3); (have hx0 := bc w.heap.size 0 (by simp)); (simp [World.cell?_alloc_new] at hx0); (have hx1 := bc w.heap.size 1 (by simp)); (simp [World.cell?_alloc_new] at hx1); (have hx2 := bc w.heap.size 2 (by simp)); (simp [World.cell?_alloc_new] at hx2); (have hx3 := bc w.heap.size 3 (by simp)); (simp [World.cell?_alloc_new] at hx3); (have hx4 := bc w.heap.size 4 (by simp)); (simp [World.cell?_alloc_new] at hx4); (have hz1 := hb3.size); (try simp at hz1); (have hz2 : w.heap.size < w3.heap.size := (by omega)); (clear bc bf hz1)) | (go_at_call 23; go_loud (refine (jumps_t i a 0 0 0 w _ T (by go_grown) h2 (by omega) (by omega) (by omega) (by omega) (by omega)).mono ?_; rintro e w5 ⟨rfl, hb5, hB5⟩; rw [HJ.out, HV.out]; (obtain ⟨bc, bf⟩ := bcell hb5); (have hx0 := (bc w.heap.size 0 (by simp; omega)).trans ((World.cell?_alloc_lt _ _ ⟨w.heap.size, 0, none⟩ hz2).trans hx0)); (have hx1 := (bc w.heap.size 1 (by simp; omega)).trans ((World.cell?_alloc_lt _ _ ⟨w.heap.size, 1, none⟩ hz2).trans hx1)); (have hx2 := (bc w.heap.size 2 (by simp; omega)).trans ((World.cell?_alloc_lt _ _ ⟨w.heap.size, 2, none⟩ hz2).trans hx2)); (have hx3 := (bc w.heap.size 3 (by simp; omega)).trans ((World.cell?_alloc_lt _ _ ⟨w.heap.size, 3, none⟩ hz2).trans hx3)); (have hx4 := (bc w.heap.size 4 (by simp; omega)).trans ((World.cell?_alloc_lt _ _ ⟨w.heap.size, 4, none⟩ hz2).trans hx4)); (have hz1 := hb5.size); (try simp at hz1); (have hz2 : w.heap.size < w5.heap.size := (by omega)); (clear bc bf hz1))) | (go_at_call 17; go_loud (refine (known_w w _ T (by first | exact hB5 | go_grown)).mono ?_; rintro e w6 ⟨rfl, hb6, hB6⟩; (obtain ⟨bc, bf⟩ := bcell hb6); (have hx0 := (bc w.heap.size 0 hz2).trans hx0); (have hx1 := (bc w.heap.size 1 hz2).trans hx1); (have hx2 := (bc w.heap.size 2 hz2).trans hx2); (have hx3 := (bc w.heap.size 3 hz2).trans hx3); (have hx4 := (bc w.heap.size 4 hz2).trans hx4); (have hz1 := hb6.size); (try simp at hz1); (have hz2 : w.heap.size < w6.heap.size := (by omega)); (clear bc bf hz1))) | (go_at_call 25; go_loud (refine (legal_w i a 0 0 0 w _ T (by first | exact hB6 | go_grown) h2 (by omega) (by omega) (by omega)).mono ?_; rintro e w7 ⟨rfl, hb7, hB7⟩; rw [HL.out]; (obtain ⟨bc, bf⟩ := bcell hb7); (have hx0 := (bc w.heap.size 0 hz2).trans hx0); (have hx1 := (bc w.heap.size 1 hz2).trans hx1); (have hx2 := (bc w.heap.size 2 hz2).trans hx2); (have hx3 := (bc w.heap.size 3 hz2).trans hx3); (have hx4 := (bc w.heap.size 4 hz2).trans hx4); (have hz1 := hb7.size); (try simp at hz1); (have hz2 : w.heap.size < w7.heap.size := (by omega)); (clear bc bf hz1))))
  all_goals
    refine wp_loop_rounds 2 ?_
    repeat any_goals (rw [rounds_succ]; go_wp2_with (first | (go_at_call 13; refine (shape_yes i _ h1 h2 hs').mono ?_; rintro e w' ⟨rfl, rfl⟩; rw [HS.out]) | (go_at_call 11; refine (name_yes i _ h1 h2 hn').mono ?_; rintro e w' ⟨rfl, rfl⟩) | (go_at_call 27; refine (plain_a _ _ _ _ _ _).mono ?_; rintro e w3 ⟨rfl, hb3⟩; (have hB3 : Below w.heap.size w w3 := (((Below.refl _ _).alloc (Nat.le_refl _) _)).trans (hb3.mono (by simp))); (obtain ⟨bc, bf⟩ := bcell hb3); (have hx0 := bc w.heap.size 0 (by simp)); (simp [World.cell?_alloc_new] at hx0); (have hx1 := bc w.heap.size 1 (by simp)); (simp [World.cell?_alloc_new] at hx1); (have hx2 := bc w.heap.size 2 (by simp)); (simp [World.cell?_alloc_new] at hx2); (have hx3 := bc w.heap.size 3 (by simp)); (simp [World.cell?_alloc_new] at hx3); (have hx4 := bc w.heap.size 4 (by simp)); (simp [World.cell?_alloc_new] at hx4); (have hz1 := hb3.size); (try simp at hz1); (have hz2 : w.heap.size < w3.heap.size := (by omega)); (clear bc bf hz1)) | (go_at_call 23; go_loud (refine (jumps_t i a 0 0 0 w _ T (by go_grown) h2 (by omega) (by omega) (by omega) (by omega) (by omega)).mono ?_; rintro e w5 ⟨rfl, hb5, hB5⟩; rw [HJ.out, HV.out]; (obtain ⟨bc, bf⟩ := bcell hb5); (have hx0 := (bc w.heap.size 0 (by simp; omega)).trans ((World.cell?_alloc_lt _ _ ⟨w.heap.size, 0, none⟩ hz2).trans hx0)); (have hx1 := (bc w.heap.size 1 (by simp; omega)).trans ((World.cell?_alloc_lt _ _ ⟨w.heap.size, 1, none⟩ hz2).trans hx1)); (have hx2 := (bc w.heap.size 2 (by simp; omega)).trans ((World.cell?_alloc_lt _ _ ⟨w.heap.size, 2, none⟩ hz2).trans hx2)); (have hx3 := (bc w.heap.size 3 (by simp; omega)).trans ((World.cell?_alloc_lt _ _ ⟨w.heap.size, 3, none⟩ hz2).trans hx3)); (have hx4 := (bc w.heap.size 4 (by simp; omega)).trans ((World.cell?_alloc_lt _ _ ⟨w.heap.size, 4, none⟩ hz2).trans hx4)); (have hz1 := hb5.size); (try simp at hz1); (have hz2 : w.heap.size < w5.heap.size := (by omega)); (clear bc bf hz1))) | (go_at_call 17; go_loud (refine (known_w w _ T (by first | exact hB5 | go_grown)).mono ?_; rintro e w6 ⟨rfl, hb6, hB6⟩; (obtain ⟨bc, bf⟩ := bcell hb6); (have hx0 := (bc w.heap.size 0 hz2).trans hx0); (have hx1 := (bc w.heap.size 1 hz2).trans hx1); (have hx2 := (bc w.heap.size 2 hz2).trans hx2); (have hx3 := (bc w.heap.size 3 hz2).trans hx3); (have hx4 := (bc w.heap.size 4 hz2).trans hx4); (have hz1 := hb6.size); (try simp at hz1); (have hz2 : w.heap.size < w6.heap.size := (by omega)); (clear bc bf hz1))) | (go_at_call 25; go_loud (refine (legal_w i a 0 0 0 w _ T (by first | exact hB6 | go_grown) h2 (by omega) (by omega) (by omega)).mono ?_; rintro e w7 ⟨rfl, hb7, hB7⟩; rw [HL.out]; (obtain ⟨bc, bf⟩ := bcell hb7); (have hx0 := (bc w.heap.size 0 hz2).trans hx0); (have hx1 := (bc w.heap.size 1 hz2).trans hx1); (have hx2 := (bc w.heap.size 2 hz2).trans hx2); (have hx3 := (bc w.heap.size 3 hz2).trans hx3); (have hx4 := (bc w.heap.size 4 hz2).trans hx4); (have hz1 := hb7.size); (try simp at hz1); (have hz2 : w.heap.size < w7.heap.size := (by omega)); (clear bc bf hz1)))))
  all_goals go_ret
  all_goals exact ⟨by first | rfl | (simp; omega), by go_grown⟩
set_option maxHeartbeats 4000000 in
set_option maxRecDepth 20000 in
theorem il_a_mixed (i : Nat) (a b c n u : Int) (w : World) (T : Tabs w) (h1 : 1 ≤ i) (h2 : i ≤ 27) (hs : shapeB i = ⟨#[97]⟩) (ha0 : 0 ≤ a) (ha1 : a < 256) (hb0 : 0 ≤ b) (hb1 : b < 256) (hc0 : 0 ≤ c) (hc1 : c < 256) (hn0 : -2147483648 ≤ n) (hn1 : n ≤ 2147483647) (hq : ¬ ((0 : Int) = 0 ∧ (b : Int) = 0 ∧ (c : Int) = 0 ∧ (n : Int) = 0)) :
    Calls Tryd.prog 7 #[ins i a b c n] w fun e w' => e = .returned (.bool true) ∧ Below w.heap.size w w' := by
  have hl : legalB i a b c n = false := by
    rw [legal_at i a b c n #[97] h1 h2 hs]
    simp [legalS, regOk, hasB]
    try omega
  have h25 : i = 25 := by
    exact only25 i h1 h2 hs
  have hj : jumpB i a b c n = false := by
    rw [jumpB_at i a b c n #[97] h1 h2 hs, hl]
    simp [hasB, h25]
  have hv : jumpV i a b c n = 0 := by
    unfold jumpV
    rw [hj]
    rfl
  have hB0 : Below w.heap.size w (w.alloc (.cells #[.int .u8 i, .int .u8 a, .int .u8 b, .int .u8 c, .int .i32 n] 26)) := (Below.refl _ _).alloc (Nat.le_refl _) _
  have hn' := ((T.on hB0).tab i (by omega)).1
  have hs' := ((T.on hB0).tab i (by omega)).2
  have hjm : ((nameB i).toList == [106, 109, 114]) = true := by subst h25; kernel_rfl
  have hqq := eq5no i 0 b c n hq
  have HS := Lib.hid hs
  have HL := Lib.hid hl
  have HJ := Lib.hid hj
  have HV := Lib.hid hv
  clear hs hl hj hv h25
  have E0 : ((⟨#[97]⟩ : ByteArray)[0]'(by decide)).toNat = 97 := rfl
  go_enter Tryd.func7, Tryd.ntmps7
  go_wp2_with (first | (go_at_call 13; refine (shape_yes i _ h1 h2 hs').mono ?_; rintro e w' ⟨rfl, rfl⟩; rw [HS.out]) | (go_at_call 11; refine (name_yes i _ h1 h2 hn').mono ?_; rintro e w' ⟨rfl, rfl⟩) | (go_at_call 27; refine (plain_a _ _ _ _ _ _).mono ?_; rintro e w3 ⟨rfl, hb3⟩; (have hB3 : Below w.heap.size w w3 := (((Below.refl _ _).alloc (Nat.le_refl _) _)).trans (hb3.mono (by simp))); (obtain ⟨bc, bf⟩ := bcell hb3); (have hx0 := bc w.heap.size 0 (by simp)); (simp [World.cell?_alloc_new] at hx0); (have hx1 := bc w.heap.size 1 (by simp)); (simp [World.cell?_alloc_new] at hx1); (have hx2 := bc w.heap.size 2 (by simp)); (simp [World.cell?_alloc_new] at hx2); (have hx3 := bc w.heap.size 3 (by simp)); (simp [World.cell?_alloc_new] at hx3); (have hx4 := bc w.heap.size 4 (by simp)); (simp [World.cell?_alloc_new] at hx4); (have hz1 := hb3.size); (try simp at hz1); (have hz2 : w.heap.size < w3.heap.size := (by omega)); (clear bc bf hz1)) | (go_at_call 23; go_loud (refine (jumps_t i a b c n w _ T (by go_grown) h2 (by omega) (by omega) (by omega) (by omega) (by omega)).mono ?_; rintro e w5 ⟨rfl, hb5, hB5⟩; rw [HJ.out, HV.out]; (obtain ⟨bc, bf⟩ := bcell hb5); (have hx0 := (bc w.heap.size 0 (by simp; omega)).trans ((World.cell?_alloc_lt _ _ ⟨w.heap.size, 0, none⟩ hz2).trans hx0)); (have hx1 := (bc w.heap.size 1 (by simp; omega)).trans ((World.cell?_alloc_lt _ _ ⟨w.heap.size, 1, none⟩ hz2).trans hx1)); (have hx2 := (bc w.heap.size 2 (by simp; omega)).trans ((World.cell?_alloc_lt _ _ ⟨w.heap.size, 2, none⟩ hz2).trans hx2)); (have hx3 := (bc w.heap.size 3 (by simp; omega)).trans ((World.cell?_alloc_lt _ _ ⟨w.heap.size, 3, none⟩ hz2).trans hx3)); (have hx4 := (bc w.heap.size 4 (by simp; omega)).trans ((World.cell?_alloc_lt _ _ ⟨w.heap.size, 4, none⟩ hz2).trans hx4)); (have hz1 := hb5.size); (try simp at hz1); (have hz2 : w.heap.size < w5.heap.size := (by omega)); (clear bc bf hz1))) | (go_at_call 17; go_loud (refine (known_w w _ T (by first | exact hB5 | go_grown)).mono ?_; rintro e w6 ⟨rfl, hb6, hB6⟩; (obtain ⟨bc, bf⟩ := bcell hb6); (have hx0 := (bc w.heap.size 0 hz2).trans hx0); (have hx1 := (bc w.heap.size 1 hz2).trans hx1); (have hx2 := (bc w.heap.size 2 hz2).trans hx2); (have hx3 := (bc w.heap.size 3 hz2).trans hx3); (have hx4 := (bc w.heap.size 4 hz2).trans hx4); (have hz1 := hb6.size); (try simp at hz1); (have hz2 : w.heap.size < w6.heap.size := (by omega)); (clear bc bf hz1))) | (go_at_call 25; go_loud (refine (legal_w i a b c n w _ T (by first | exact hB6 | go_grown) h2 (by omega) (by omega) (by omega)).mono ?_; rintro e w7 ⟨rfl, hb7, hB7⟩; rw [HL.out]; (obtain ⟨bc, bf⟩ := bcell hb7); (have hx0 := (bc w.heap.size 0 hz2).trans hx0); (have hx1 := (bc w.heap.size 1 hz2).trans hx1); (have hx2 := (bc w.heap.size 2 hz2).trans hx2); (have hx3 := (bc w.heap.size 3 hz2).trans hx3); (have hx4 := (bc w.heap.size 4 hz2).trans hx4); (have hz1 := hb7.size); (try simp at hz1); (have hz2 : w.heap.size < w7.heap.size := (by omega)); (clear bc bf hz1))))
  all_goals
    refine wp_loop_rounds 2 ?_
    repeat any_goals (rw [rounds_succ]; go_wp2_with (first | (go_at_call 13; refine (shape_yes i _ h1 h2 hs').mono ?_; rintro e w' ⟨rfl, rfl⟩; rw [HS.out]) | (go_at_call 11; refine (name_yes i _ h1 h2 hn').mono ?_; rintro e w' ⟨rfl, rfl⟩) | (go_at_call 27; refine (plain_a _ _ _ _ _ _).mono ?_; rintro e w3 ⟨rfl, hb3⟩; (have hB3 : Below w.heap.size w w3 := (((Below.refl _ _).alloc (Nat.le_refl _) _)).trans (hb3.mono (by simp))); (obtain ⟨bc, bf⟩ := bcell hb3); (have hx0 := bc w.heap.size 0 (by simp)); (simp [World.cell?_alloc_new] at hx0); (have hx1 := bc w.heap.size 1 (by simp)); (simp [World.cell?_alloc_new] at hx1); (have hx2 := bc w.heap.size 2 (by simp)); (simp [World.cell?_alloc_new] at hx2); (have hx3 := bc w.heap.size 3 (by simp)); (simp [World.cell?_alloc_new] at hx3); (have hx4 := bc w.heap.size 4 (by simp)); (simp [World.cell?_alloc_new] at hx4); (have hz1 := hb3.size); (try simp at hz1); (have hz2 : w.heap.size < w3.heap.size := (by omega)); (clear bc bf hz1)) | (go_at_call 23; go_loud (refine (jumps_t i a b c n w _ T (by go_grown) h2 (by omega) (by omega) (by omega) (by omega) (by omega)).mono ?_; rintro e w5 ⟨rfl, hb5, hB5⟩; rw [HJ.out, HV.out]; (obtain ⟨bc, bf⟩ := bcell hb5); (have hx0 := (bc w.heap.size 0 (by simp; omega)).trans ((World.cell?_alloc_lt _ _ ⟨w.heap.size, 0, none⟩ hz2).trans hx0)); (have hx1 := (bc w.heap.size 1 (by simp; omega)).trans ((World.cell?_alloc_lt _ _ ⟨w.heap.size, 1, none⟩ hz2).trans hx1)); (have hx2 := (bc w.heap.size 2 (by simp; omega)).trans ((World.cell?_alloc_lt _ _ ⟨w.heap.size, 2, none⟩ hz2).trans hx2)); (have hx3 := (bc w.heap.size 3 (by simp; omega)).trans ((World.cell?_alloc_lt _ _ ⟨w.heap.size, 3, none⟩ hz2).trans hx3)); (have hx4 := (bc w.heap.size 4 (by simp; omega)).trans ((World.cell?_alloc_lt _ _ ⟨w.heap.size, 4, none⟩ hz2).trans hx4)); (have hz1 := hb5.size); (try simp at hz1); (have hz2 : w.heap.size < w5.heap.size := (by omega)); (clear bc bf hz1))) | (go_at_call 17; go_loud (refine (known_w w _ T (by first | exact hB5 | go_grown)).mono ?_; rintro e w6 ⟨rfl, hb6, hB6⟩; (obtain ⟨bc, bf⟩ := bcell hb6); (have hx0 := (bc w.heap.size 0 hz2).trans hx0); (have hx1 := (bc w.heap.size 1 hz2).trans hx1); (have hx2 := (bc w.heap.size 2 hz2).trans hx2); (have hx3 := (bc w.heap.size 3 hz2).trans hx3); (have hx4 := (bc w.heap.size 4 hz2).trans hx4); (have hz1 := hb6.size); (try simp at hz1); (have hz2 : w.heap.size < w6.heap.size := (by omega)); (clear bc bf hz1))) | (go_at_call 25; go_loud (refine (legal_w i a b c n w _ T (by first | exact hB6 | go_grown) h2 (by omega) (by omega) (by omega)).mono ?_; rintro e w7 ⟨rfl, hb7, hB7⟩; rw [HL.out]; (obtain ⟨bc, bf⟩ := bcell hb7); (have hx0 := (bc w.heap.size 0 hz2).trans hx0); (have hx1 := (bc w.heap.size 1 hz2).trans hx1); (have hx2 := (bc w.heap.size 2 hz2).trans hx2); (have hx3 := (bc w.heap.size 3 hz2).trans hx3); (have hx4 := (bc w.heap.size 4 hz2).trans hx4); (have hz1 := hb7.size); (try simp at hz1); (have hz2 : w.heap.size < w7.heap.size := (by omega)); (clear bc bf hz1)))))
  all_goals go_ret
  all_goals exact ⟨by first | rfl | (simp; omega), by go_grown⟩
set_option maxHeartbeats 4000000 in
set_option maxRecDepth 20000 in
theorem il_a_fara (i : Nat) (a u : Int) (w : World) (T : Tabs w) (h1 : 1 ≤ i) (h2 : i ≤ 27) (hs : shapeB i = ⟨#[97]⟩) (ha0 : 0 ≤ a) (ha1 : a < 256) (qa : 16 ≤ a) :
    Calls Tryd.prog 7 #[ins i a 0 0 0] w fun e w' => e = .returned (.bool true) ∧ Below w.heap.size w w' := by
  have hl : legalB i a 0 0 0 = false := by
    rw [legal_at i a 0 0 0 #[97] h1 h2 hs]
    simp [legalS, regOk, hasB]
    try omega
  have h25 : i = 25 := by
    exact only25 i h1 h2 hs
  have hj : jumpB i a 0 0 0 = false := by
    rw [jumpB_at i a 0 0 0 #[97] h1 h2 hs, hl]
    simp [hasB, h25]
  have hv : jumpV i a 0 0 0 = 0 := by
    unfold jumpV
    rw [hj]
    rfl
  have hB0 : Below w.heap.size w (w.alloc (.cells #[.int .u8 i, .int .u8 a, .int .u8 0, .int .u8 0, .int .i32 0] 26)) := (Below.refl _ _).alloc (Nat.le_refl _) _
  have hn' := ((T.on hB0).tab i (by omega)).1
  have hs' := ((T.on hB0).tab i (by omega)).2
  have hjm : ((nameB i).toList == [106, 109, 114]) = true := by subst h25; kernel_rfl
  have hqq := eq5 i 0 0 0 0
  have HS := Lib.hid hs
  have HL := Lib.hid hl
  have HJ := Lib.hid hj
  have HV := Lib.hid hv
  clear hs hl hj hv h25
  have E0 : ((⟨#[97]⟩ : ByteArray)[0]'(by decide)).toNat = 97 := rfl
  go_enter Tryd.func7, Tryd.ntmps7
  go_wp2_with (first | (go_at_call 13; refine (shape_yes i _ h1 h2 hs').mono ?_; rintro e w' ⟨rfl, rfl⟩; rw [HS.out]) | (go_at_call 11; refine (name_yes i _ h1 h2 hn').mono ?_; rintro e w' ⟨rfl, rfl⟩) | (go_at_call 27; refine (plain_a _ _ _ _ _ _).mono ?_; rintro e w3 ⟨rfl, hb3⟩; (have hB3 : Below w.heap.size w w3 := (((Below.refl _ _).alloc (Nat.le_refl _) _)).trans (hb3.mono (by simp))); (obtain ⟨bc, bf⟩ := bcell hb3); (have hx0 := bc w.heap.size 0 (by simp)); (simp [World.cell?_alloc_new] at hx0); (have hx1 := bc w.heap.size 1 (by simp)); (simp [World.cell?_alloc_new] at hx1); (have hx2 := bc w.heap.size 2 (by simp)); (simp [World.cell?_alloc_new] at hx2); (have hx3 := bc w.heap.size 3 (by simp)); (simp [World.cell?_alloc_new] at hx3); (have hx4 := bc w.heap.size 4 (by simp)); (simp [World.cell?_alloc_new] at hx4); (have hz1 := hb3.size); (try simp at hz1); (have hz2 : w.heap.size < w3.heap.size := (by omega)); (clear bc bf hz1)) | (go_at_call 23; go_loud (refine (jumps_t i a 0 0 0 w _ T (by go_grown) h2 (by omega) (by omega) (by omega) (by omega) (by omega)).mono ?_; rintro e w5 ⟨rfl, hb5, hB5⟩; rw [HJ.out, HV.out]; (obtain ⟨bc, bf⟩ := bcell hb5); (have hx0 := (bc w.heap.size 0 (by simp; omega)).trans ((World.cell?_alloc_lt _ _ ⟨w.heap.size, 0, none⟩ hz2).trans hx0)); (have hx1 := (bc w.heap.size 1 (by simp; omega)).trans ((World.cell?_alloc_lt _ _ ⟨w.heap.size, 1, none⟩ hz2).trans hx1)); (have hx2 := (bc w.heap.size 2 (by simp; omega)).trans ((World.cell?_alloc_lt _ _ ⟨w.heap.size, 2, none⟩ hz2).trans hx2)); (have hx3 := (bc w.heap.size 3 (by simp; omega)).trans ((World.cell?_alloc_lt _ _ ⟨w.heap.size, 3, none⟩ hz2).trans hx3)); (have hx4 := (bc w.heap.size 4 (by simp; omega)).trans ((World.cell?_alloc_lt _ _ ⟨w.heap.size, 4, none⟩ hz2).trans hx4)); (have hz1 := hb5.size); (try simp at hz1); (have hz2 : w.heap.size < w5.heap.size := (by omega)); (clear bc bf hz1))) | (go_at_call 17; go_loud (refine (known_w w _ T (by first | exact hB5 | go_grown)).mono ?_; rintro e w6 ⟨rfl, hb6, hB6⟩; (obtain ⟨bc, bf⟩ := bcell hb6); (have hx0 := (bc w.heap.size 0 hz2).trans hx0); (have hx1 := (bc w.heap.size 1 hz2).trans hx1); (have hx2 := (bc w.heap.size 2 hz2).trans hx2); (have hx3 := (bc w.heap.size 3 hz2).trans hx3); (have hx4 := (bc w.heap.size 4 hz2).trans hx4); (have hz1 := hb6.size); (try simp at hz1); (have hz2 : w.heap.size < w6.heap.size := (by omega)); (clear bc bf hz1))) | (go_at_call 25; go_loud (refine (legal_w i a 0 0 0 w _ T (by first | exact hB6 | go_grown) h2 (by omega) (by omega) (by omega)).mono ?_; rintro e w7 ⟨rfl, hb7, hB7⟩; rw [HL.out]; (obtain ⟨bc, bf⟩ := bcell hb7); (have hx0 := (bc w.heap.size 0 hz2).trans hx0); (have hx1 := (bc w.heap.size 1 hz2).trans hx1); (have hx2 := (bc w.heap.size 2 hz2).trans hx2); (have hx3 := (bc w.heap.size 3 hz2).trans hx3); (have hx4 := (bc w.heap.size 4 hz2).trans hx4); (have hz1 := hb7.size); (try simp at hz1); (have hz2 : w.heap.size < w7.heap.size := (by omega)); (clear bc bf hz1))))
  all_goals
    refine wp_loop_rounds 2 ?_
    repeat any_goals (rw [rounds_succ]; go_wp2_with (first | (go_at_call 13; refine (shape_yes i _ h1 h2 hs').mono ?_; rintro e w' ⟨rfl, rfl⟩; rw [HS.out]) | (go_at_call 11; refine (name_yes i _ h1 h2 hn').mono ?_; rintro e w' ⟨rfl, rfl⟩) | (go_at_call 27; refine (plain_a _ _ _ _ _ _).mono ?_; rintro e w3 ⟨rfl, hb3⟩; (have hB3 : Below w.heap.size w w3 := (((Below.refl _ _).alloc (Nat.le_refl _) _)).trans (hb3.mono (by simp))); (obtain ⟨bc, bf⟩ := bcell hb3); (have hx0 := bc w.heap.size 0 (by simp)); (simp [World.cell?_alloc_new] at hx0); (have hx1 := bc w.heap.size 1 (by simp)); (simp [World.cell?_alloc_new] at hx1); (have hx2 := bc w.heap.size 2 (by simp)); (simp [World.cell?_alloc_new] at hx2); (have hx3 := bc w.heap.size 3 (by simp)); (simp [World.cell?_alloc_new] at hx3); (have hx4 := bc w.heap.size 4 (by simp)); (simp [World.cell?_alloc_new] at hx4); (have hz1 := hb3.size); (try simp at hz1); (have hz2 : w.heap.size < w3.heap.size := (by omega)); (clear bc bf hz1)) | (go_at_call 23; go_loud (refine (jumps_t i a 0 0 0 w _ T (by go_grown) h2 (by omega) (by omega) (by omega) (by omega) (by omega)).mono ?_; rintro e w5 ⟨rfl, hb5, hB5⟩; rw [HJ.out, HV.out]; (obtain ⟨bc, bf⟩ := bcell hb5); (have hx0 := (bc w.heap.size 0 (by simp; omega)).trans ((World.cell?_alloc_lt _ _ ⟨w.heap.size, 0, none⟩ hz2).trans hx0)); (have hx1 := (bc w.heap.size 1 (by simp; omega)).trans ((World.cell?_alloc_lt _ _ ⟨w.heap.size, 1, none⟩ hz2).trans hx1)); (have hx2 := (bc w.heap.size 2 (by simp; omega)).trans ((World.cell?_alloc_lt _ _ ⟨w.heap.size, 2, none⟩ hz2).trans hx2)); (have hx3 := (bc w.heap.size 3 (by simp; omega)).trans ((World.cell?_alloc_lt _ _ ⟨w.heap.size, 3, none⟩ hz2).trans hx3)); (have hx4 := (bc w.heap.size 4 (by simp; omega)).trans ((World.cell?_alloc_lt _ _ ⟨w.heap.size, 4, none⟩ hz2).trans hx4)); (have hz1 := hb5.size); (try simp at hz1); (have hz2 : w.heap.size < w5.heap.size := (by omega)); (clear bc bf hz1))) | (go_at_call 17; go_loud (refine (known_w w _ T (by first | exact hB5 | go_grown)).mono ?_; rintro e w6 ⟨rfl, hb6, hB6⟩; (obtain ⟨bc, bf⟩ := bcell hb6); (have hx0 := (bc w.heap.size 0 hz2).trans hx0); (have hx1 := (bc w.heap.size 1 hz2).trans hx1); (have hx2 := (bc w.heap.size 2 hz2).trans hx2); (have hx3 := (bc w.heap.size 3 hz2).trans hx3); (have hx4 := (bc w.heap.size 4 hz2).trans hx4); (have hz1 := hb6.size); (try simp at hz1); (have hz2 : w.heap.size < w6.heap.size := (by omega)); (clear bc bf hz1))) | (go_at_call 25; go_loud (refine (legal_w i a 0 0 0 w _ T (by first | exact hB6 | go_grown) h2 (by omega) (by omega) (by omega)).mono ?_; rintro e w7 ⟨rfl, hb7, hB7⟩; rw [HL.out]; (obtain ⟨bc, bf⟩ := bcell hb7); (have hx0 := (bc w.heap.size 0 hz2).trans hx0); (have hx1 := (bc w.heap.size 1 hz2).trans hx1); (have hx2 := (bc w.heap.size 2 hz2).trans hx2); (have hx3 := (bc w.heap.size 3 hz2).trans hx3); (have hx4 := (bc w.heap.size 4 hz2).trans hx4); (have hz1 := hb7.size); (try simp at hz1); (have hz2 : w.heap.size < w7.heap.size := (by omega)); (clear bc bf hz1)))))
  all_goals go_ret
  all_goals exact ⟨by first | rfl | (simp; omega), by go_grown⟩
theorem il_a (i : Nat) (a b c n : Int) (w : World) (T : Tabs w) (h1 : 1 ≤ i) (h2 : i ≤ 27) (hs : shapeB i = ⟨#[97]⟩) (ha0 : 0 ≤ a) (ha1 : a < 256) (hb0 : 0 ≤ b) (hb1 : b < 256) (hc0 : 0 ≤ c) (hc1 : c < 256) (hn0 : -2147483648 ≤ n) (hn1 : n ≤ 2147483647) :
    Calls Tryd.prog 7 #[ins i a b c n] w fun e w' => e = .returned (.bool true) ∧ Below w.heap.size w w' := by
  by_cases hq : (0 : Int) = 0 ∧ (b : Int) = 0 ∧ (c : Int) = 0 ∧ (n : Int) = 0
  · obtain ⟨_, rfl, rfl, rfl⟩ := hq
    by_cases qa : a < 16
    rotate_left
    · exact il_a_fara i a 0 w T h1 h2 hs ha0 ha1  (by omega)
    exact il_a_yes i a 0 w T h1 h2 hs ha0 ha1 qa
  · exact il_a_mixed i a b c n 0 w T h1 h2 hs ha0 ha1 hb0 hb1 hc0 hc1 hn0 hn1 hq
end Go.Proofs.YtcbhkeinmdobhaaDoor
