import Derived.Test.YtcbhkeinmdobhaaDoorLg
import Derived.Deep.QuietTactic
import Derived.Test.YtcbhkeinmdobhaaDoorFloat
import Derived.Test.YtcbhkeinmdobhaaDoorFloat
namespace Go.Proofs.YtcbhkeinmdobhaaDoor
open Go.ChangeShapes Go.WideShapes Go.ChangeAt Go.RowKit
set_option linter.unusedVariables false
set_option linter.unusedSimpArgs false

theorem has_take (s : ByteArray) (ch : Int) (k : Nat) (h : k < s.size) : hasB (s.data.toList.take (k + 1)) ch = (hasB (s.data.toList.take k) ch || decide ((s[k].toNat : Int) = ch)) := by
  unfold hasB
  rw [List.take_succ_eq_append_getElem (by simpa using h), List.any_append]
  simp
  rfl
theorem has_whole (s : ByteArray) (ch : Int) (k : Nat) (h : k < s.size) (hk : (s[k].toNat : Int) = ch) : hasB s.data.toList ch = true := by
  unfold hasB
  rw [List.any_eq_true]
  exact ⟨s[k], by simp [ByteArray.getElem_eq_getElem_data], by simpa using hk⟩

theorem has_any (s : ByteArray) (ch : Int) (w : World) (hs : s.size ≤ 100) : Calls Tryd.prog 36 #[.string s, .int .u8 ch] w fun e w' => e = .returned (.bool (hasB s.data.toList ch)) ∧ w = w' := by
  go_enter Tryd.func36, Tryd.ntmps36
  go_wp2
  go_loop [5] (fun i => ∃ k : Nat, k ≤ s.size ∧ i = .int .i64 k ∧ hasB (s.data.toList.take k) ch = false) (fun i => s.size - (intOf i).toNat)
  case atStart => exact ⟨0, Nat.zero_le _, rfl, rfl⟩
  case round =>
    obtain ⟨k, hk, rfl, hn⟩ := hrel
    have HN := Lib.hid hn
    clear hn
    by_cases hlt : k < s.size
    · have HT := Lib.hid (has_take s ch k hlt)
      by_cases hq : (s[k].toNat : Int) = ch
      · have HQ := Lib.hid hq
        have hb : ((s[k].toNat : Int) == ch) = true := by simpa using hq
        clear hq
        go_wp2
        go_ret
        exact ⟨by rw [has_whole s ch k hlt HQ.out]; rfl, rfl⟩
      · have HQ := Lib.hid hq
        have hb : ((s[k].toNat : Int) == ch) = false := by simpa using hq
        clear hq
        go_wp2
        go_round
        case rel => exact ⟨k + 1, by omega, by go_num, by rw [HT.out, HN.out]; simpa using HQ.out⟩
        case measure => simp [intOf]; omega
    · have hk' : k = s.size := by omega
      have HK := Lib.hid hk'
      clear hk'
      go_wp2
      go_ret
      refine ⟨?_, rfl⟩
      have h := HN.out
      rw [HK.out, List.take_of_length_le (by simp)] at h
      rw [h]
      rfl
theorem register_yes (r : Int) (w : World) : Calls Tryd.prog 37 #[.int .u8 r, .bool true] w fun e w' => e = .returned (.bool (decide (r ≤ 15))) ∧ w = w' := by
  go_enter Tryd.func37, Tryd.ntmps37
  go_wp2
  go_ret
  exact ⟨rfl, rfl⟩
theorem register_no (r : Int) (w : World) : Calls Tryd.prog 37 #[.int .u8 r, .bool false] w fun e w' => e = .returned (.bool (r == 0)) ∧ w = w' := by
  go_enter Tryd.func37, Tryd.ntmps37
  go_wp2
  go_ret
  exact ⟨rfl, rfl⟩
theorem register_any (r : Int) (h : Bool) (w : World) : Calls Tryd.prog 37 #[.int .u8 r, .bool h] w fun e w' => e = .returned (.bool (regOk h r)) ∧ w = w' := by
  cases h
  · exact (register_no r w).mono fun e w' ⟨h1, h2⟩ => ⟨by rw [h1]; simp only [regOk, Bool.false_eq_true, if_false, Ending.returned.injEq, Value.bool.injEq]; rw [Bool.eq_iff_iff]; simp, h2⟩
  · exact (register_yes r w).mono fun e w' ⟨h1, h2⟩ => ⟨by rw [h1]; simp only [regOk, if_true, Ending.returned.injEq, Value.bool.injEq]; rw [Bool.eq_iff_iff]; simp; omega, h2⟩


set_option maxRecDepth 100000 in
set_option maxHeartbeats 2000000 in
theorem rlegal_yes (i : Nat) (a b c n : Int) (w : World) (h1 : 1 ≤ i) (h2 : i ≤ 27) (hsz0 : (shapeB i).size ≤ 100) :
    Calls Tryd.prog 26 #[ins i a b c n] w fun e w' => e = .returned (.bool (legalS (shapeB i).data.toList a b c n)) ∧ Below w.heap.size w w' := by
  obtain ⟨s, hs⟩ : ∃ s, s = shapeB i := ⟨_, rfl⟩
  have HS := Lib.hid hs
  have hsz : s.size ≤ 100 := by rw [hs]; exact hsz0
  rw [← hs]
  clear hs hsz0
  obtain ⟨W, hW⟩ : ∃ W : World, W = (w.alloc (.cells #[.int .u8 i, .int .u8 a, .int .u8 b, .int .u8 c, .int .i32 n] 26)).alloc (.cells shapeCells 9) := ⟨_, rfl⟩
  have HC : ∀ w', Below W.heap.size W w' → w'.cell? ⟨w.heap.size, 0, none⟩ = some (.int .u8 i) ∧ w'.cell? ⟨w.heap.size, 1, none⟩ = some (.int .u8 a) ∧ w'.cell? ⟨w.heap.size, 2, none⟩ = some (.int .u8 b) ∧ w'.cell? ⟨w.heap.size, 3, none⟩ = some (.int .u8 c) ∧ w'.cell? ⟨w.heap.size, 4, none⟩ = some (.int .i32 n) := fun w' h => by
    have h3 : Below (w.alloc (.cells #[.int .u8 i, .int .u8 a, .int .u8 b, .int .u8 c, .int .i32 n] 26)).heap.size (w.alloc (.cells #[.int .u8 i, .int .u8 a, .int .u8 b, .int .u8 c, .int .i32 n] 26)) w' := by
      subst hW
      exact ((Below.refl _ _).alloc (Nat.le_refl _) _).trans (h.mono (by simp))
    refine ⟨?_, ?_, ?_, ?_, ?_⟩ <;> (rw [h3.cell (by simp)]; simp [World.cell?_alloc_new])
  have HB : Below w.heap.size w W := by rw [hW]; exact ((Below.refl _ _).alloc (Nat.le_refl _) _).alloc (by simp) _
  have HW := Lib.hid hW
  clear hW
  rcases hr1 : regOk (hasB s.data.toList 97) a with _ | _
  rotate_left
  rcases hr2 : regOk (hasB s.data.toList 98) b with _ | _
  rotate_left
  rcases hr3 : regOk (hasB s.data.toList 99) c with _ | _
  rotate_left
  · have R1 := Lib.hid hr1
    have R2 := Lib.hid hr2
    have R3 := Lib.hid hr3
    clear hr1 hr2 hr3
    go_enter Tryd.func26, Tryd.ntmps26
    go_wp2_with (go_at_call 14; refine (rshape_yes i _ h1 h2).mono ?_; rintro e w' ⟨rfl, rfl⟩; rw [← HS.out, ← HW.out])
    refine Float.wp_region_below (by kernel_rfl) (by kernel_rfl) ?_
    refine Float.step (v := .bool true) (by rfl) (fun w' hw' => Float.value_at ?_) ?_
    · go_simp
    go_frame
    refine Float.step (v := .bool false) (by rfl) (fun w' hw' => Float.value_at ?_) ?_
    · go_simp
    go_frame
    refine Float.step (v := .bool false) (by rfl) (fun w' hw' => Float.value_at ?_) ?_
    · go_simp
    go_frame
    refine Float.step (v := .pointer (some ⟨w.heap.size, 1, none⟩)) (by rfl) (fun w' hw' => Float.value_at ?_) ?_
    · go_simp
    go_frame
    refine Float.step (v := .int .u8 a) (by rfl) (fun w' hw' => Float.value_at ?_) ?_
    · obtain ⟨y0, y1, y2, y3, y4⟩ := HC w' hw'
      go_simp
    go_frame
    refine Float.step (v := .string s) (by rfl) (fun w' hw' => Float.value_at ?_) ?_
    · go_simp
    go_frame
    refine Float.step (v := .bool (hasB s.data.toList 97)) (by rfl) (fun w' hw' => Float.call_at ?_ ((has_any s 97 w' hsz).mono fun e w'' h2 => ⟨h2.1, h2.2 ▸ hw'⟩)) ?_
    · go_simp
    go_frame
    refine Float.step (v := .bool (regOk (hasB s.data.toList 97) a)) (by rfl) (fun w' hw' => Float.call_at ?_ ((register_any a _ w').mono fun e w'' h2 => ⟨h2.1, h2.2 ▸ hw'⟩)) ?_
    · go_simp
    go_frame
    refine Float.step (v := .bool false) (by rfl) (fun w' hw' => Float.value_at ?_) ?_
    · have q := R1.out
      go_simp
    go_frame
    refine Float.step (v := .bool false) (by rfl) (fun w' hw' => Float.value_at ?_) ?_
    · go_simp
    go_frame
    refine Float.step (v := .bool false) (by rfl) (fun w' hw' => Float.value_at ?_) ?_
    · go_simp
    go_frame
    refine Float.step (v := .pointer (some ⟨w.heap.size, 2, none⟩)) (by rfl) (fun w' hw' => Float.value_at ?_) ?_
    · go_simp
    go_frame
    refine Float.step (v := .int .u8 b) (by rfl) (fun w' hw' => Float.value_at ?_) ?_
    · obtain ⟨y0, y1, y2, y3, y4⟩ := HC w' hw'
      go_simp
    go_frame
    refine Float.step (v := .string s) (by rfl) (fun w' hw' => Float.value_at ?_) ?_
    · go_simp
    go_frame
    refine Float.step (v := .bool (hasB s.data.toList 98)) (by rfl) (fun w' hw' => Float.call_at ?_ ((has_any s 98 w' hsz).mono fun e w'' h2 => ⟨h2.1, h2.2 ▸ hw'⟩)) ?_
    · go_simp
    go_frame
    refine Float.step (v := .bool (regOk (hasB s.data.toList 98) b)) (by rfl) (fun w' hw' => Float.call_at ?_ ((register_any b _ w').mono fun e w'' h2 => ⟨h2.1, h2.2 ▸ hw'⟩)) ?_
    · go_simp
    go_frame
    refine Float.step (v := .bool false) (by rfl) (fun w' hw' => Float.value_at ?_) ?_
    · have q := R2.out
      go_simp
    go_frame
    refine Float.step (v := .bool false) (by rfl) (fun w' hw' => Float.value_at ?_) ?_
    · go_simp
    go_frame
    refine Float.step (v := .bool false) (by rfl) (fun w' hw' => Float.value_at ?_) ?_
    · go_simp
    go_frame
    refine Float.step (v := .pointer (some ⟨w.heap.size, 3, none⟩)) (by rfl) (fun w' hw' => Float.value_at ?_) ?_
    · go_simp
    go_frame
    refine Float.step (v := .int .u8 c) (by rfl) (fun w' hw' => Float.value_at ?_) ?_
    · obtain ⟨y0, y1, y2, y3, y4⟩ := HC w' hw'
      go_simp
    go_frame
    refine Float.step (v := .string s) (by rfl) (fun w' hw' => Float.value_at ?_) ?_
    · go_simp
    go_frame
    refine Float.step (v := .bool (hasB s.data.toList 99)) (by rfl) (fun w' hw' => Float.call_at ?_ ((has_any s 99 w' hsz).mono fun e w'' h2 => ⟨h2.1, h2.2 ▸ hw'⟩)) ?_
    · go_simp
    go_frame
    refine Float.step (v := .bool (regOk (hasB s.data.toList 99) c)) (by rfl) (fun w' hw' => Float.call_at ?_ ((register_any c _ w').mono fun e w'' h2 => ⟨h2.1, h2.2 ▸ hw'⟩)) ?_
    · go_simp
    go_frame
    refine Float.step (v := .bool false) (by rfl) (fun w' hw' => Float.value_at ?_) ?_
    · have q := R3.out
      go_simp
    go_frame
    refine Float.step (v := .bool false) (by rfl) (fun w' hw' => Float.value_at ?_) ?_
    · go_simp
    go_frame
    refine wpQuiet_nil ?_
    intro w4 hB4
    obtain ⟨y0, y1, y2, y3, y4⟩ := HC w4 hB4
    rcases hn1 : hasB s.data.toList 110 with _ | _ <;> rcases hn2 : hasB s.data.toList 112 with _ | _
    all_goals
      have N1 := Lib.hid hn1
      have N2 := Lib.hid hn2
      clear hn1 hn2
      go_wp2_with (first | (go_at_call_of 36 (Value.int .u8 110); refine (has_any s 110 _ hsz).mono ?_; rintro e w' ⟨rfl, rfl⟩; rw [N1.out]) | (go_at_call_of 36 (Value.int .u8 112); refine (has_any s 112 _ hsz).mono ?_; rintro e w' ⟨rfl, rfl⟩; rw [N2.out]))
      go_ret
      exact ⟨by first | (simp [legalS, R1.out, R2.out, R3.out, N1.out, N2.out]; done) | (simp [legalS, R1.out, R2.out, R3.out, N1.out, N2.out]; rw [Bool.eq_iff_iff]; simp), HB.trans (hB4.mono HB.size)⟩
  · have R1 := Lib.hid hr1
    clear hr1
    go_enter Tryd.func26, Tryd.ntmps26
    go_wp2_with (go_at_call 14; refine (rshape_yes i _ h1 h2).mono ?_; rintro e w' ⟨rfl, rfl⟩; rw [← HS.out, ← HW.out])
    refine Float.wp_region_below (by kernel_rfl) (by kernel_rfl) ?_
    refine Float.step (v := .bool true) (by rfl) (fun w' hw' => Float.value_at ?_) ?_
    · go_simp
    go_frame
    refine Float.step (v := .bool false) (by rfl) (fun w' hw' => Float.value_at ?_) ?_
    · go_simp
    go_frame
    refine Float.step (v := .bool false) (by rfl) (fun w' hw' => Float.value_at ?_) ?_
    · go_simp
    go_frame
    refine Float.step (v := .pointer (some ⟨w.heap.size, 1, none⟩)) (by rfl) (fun w' hw' => Float.value_at ?_) ?_
    · go_simp
    go_frame
    refine Float.step (v := .int .u8 a) (by rfl) (fun w' hw' => Float.value_at ?_) ?_
    · obtain ⟨y0, y1, y2, y3, y4⟩ := HC w' hw'
      go_simp
    go_frame
    refine Float.step (v := .string s) (by rfl) (fun w' hw' => Float.value_at ?_) ?_
    · go_simp
    go_frame
    refine Float.step (v := .bool (hasB s.data.toList 97)) (by rfl) (fun w' hw' => Float.call_at ?_ ((has_any s 97 w' hsz).mono fun e w'' h2 => ⟨h2.1, h2.2 ▸ hw'⟩)) ?_
    · go_simp
    go_frame
    refine Float.step (v := .bool (regOk (hasB s.data.toList 97) a)) (by rfl) (fun w' hw' => Float.call_at ?_ ((register_any a _ w').mono fun e w'' h2 => ⟨h2.1, h2.2 ▸ hw'⟩)) ?_
    · go_simp
    go_frame
    refine Float.step (v := .bool true) (by rfl) (fun w' hw' => Float.value_at ?_) ?_
    · have q := R1.out
      go_simp
    go_frame
    refine Float.step (v := .bool true) (by rfl) (fun w' hw' => Float.value_at ?_) ?_
    · go_simp
    go_frame
    refine Float.step (v := .bool true) (by rfl) (fun w' hw' => Float.value_at ?_) ?_
    · go_simp
    go_frame
    refine Float.skip (by rfl) ?_
    go_frame
    refine Float.skip (by rfl) ?_
    go_frame
    refine Float.skip (by rfl) ?_
    go_frame
    refine Float.skip (by rfl) ?_
    go_frame
    refine Float.skip (by rfl) ?_
    go_frame
    refine Float.skip (by rfl) ?_
    go_frame
    refine Float.step (v := .bool true) (by rfl) (fun w' hw' => Float.value_at ?_) ?_
    · go_simp
    go_frame
    refine Float.step (v := .bool true) (by rfl) (fun w' hw' => Float.value_at ?_) ?_
    · go_simp
    go_frame
    refine Float.skip (by rfl) ?_
    go_frame
    refine Float.skip (by rfl) ?_
    go_frame
    refine Float.skip (by rfl) ?_
    go_frame
    refine Float.skip (by rfl) ?_
    go_frame
    refine Float.skip (by rfl) ?_
    go_frame
    refine Float.skip (by rfl) ?_
    go_frame
    refine Float.step (v := .bool true) (by rfl) (fun w' hw' => Float.value_at ?_) ?_
    · go_simp
    go_frame
    refine wpQuiet_nil ?_
    intro w4 hB4
    go_wp2
    go_ret
    exact ⟨by simp [legalS, R1.out], HB.trans (hB4.mono HB.size)⟩
  · have R1 := Lib.hid hr1
    have R2 := Lib.hid hr2
    clear hr1 hr2
    go_enter Tryd.func26, Tryd.ntmps26
    go_wp2_with (go_at_call 14; refine (rshape_yes i _ h1 h2).mono ?_; rintro e w' ⟨rfl, rfl⟩; rw [← HS.out, ← HW.out])
    refine Float.wp_region_below (by kernel_rfl) (by kernel_rfl) ?_
    refine Float.step (v := .bool true) (by rfl) (fun w' hw' => Float.value_at ?_) ?_
    · go_simp
    go_frame
    refine Float.step (v := .bool false) (by rfl) (fun w' hw' => Float.value_at ?_) ?_
    · go_simp
    go_frame
    refine Float.step (v := .bool false) (by rfl) (fun w' hw' => Float.value_at ?_) ?_
    · go_simp
    go_frame
    refine Float.step (v := .pointer (some ⟨w.heap.size, 1, none⟩)) (by rfl) (fun w' hw' => Float.value_at ?_) ?_
    · go_simp
    go_frame
    refine Float.step (v := .int .u8 a) (by rfl) (fun w' hw' => Float.value_at ?_) ?_
    · obtain ⟨y0, y1, y2, y3, y4⟩ := HC w' hw'
      go_simp
    go_frame
    refine Float.step (v := .string s) (by rfl) (fun w' hw' => Float.value_at ?_) ?_
    · go_simp
    go_frame
    refine Float.step (v := .bool (hasB s.data.toList 97)) (by rfl) (fun w' hw' => Float.call_at ?_ ((has_any s 97 w' hsz).mono fun e w'' h2 => ⟨h2.1, h2.2 ▸ hw'⟩)) ?_
    · go_simp
    go_frame
    refine Float.step (v := .bool (regOk (hasB s.data.toList 97) a)) (by rfl) (fun w' hw' => Float.call_at ?_ ((register_any a _ w').mono fun e w'' h2 => ⟨h2.1, h2.2 ▸ hw'⟩)) ?_
    · go_simp
    go_frame
    refine Float.step (v := .bool false) (by rfl) (fun w' hw' => Float.value_at ?_) ?_
    · have q := R1.out
      go_simp
    go_frame
    refine Float.step (v := .bool false) (by rfl) (fun w' hw' => Float.value_at ?_) ?_
    · go_simp
    go_frame
    refine Float.step (v := .bool false) (by rfl) (fun w' hw' => Float.value_at ?_) ?_
    · go_simp
    go_frame
    refine Float.step (v := .pointer (some ⟨w.heap.size, 2, none⟩)) (by rfl) (fun w' hw' => Float.value_at ?_) ?_
    · go_simp
    go_frame
    refine Float.step (v := .int .u8 b) (by rfl) (fun w' hw' => Float.value_at ?_) ?_
    · obtain ⟨y0, y1, y2, y3, y4⟩ := HC w' hw'
      go_simp
    go_frame
    refine Float.step (v := .string s) (by rfl) (fun w' hw' => Float.value_at ?_) ?_
    · go_simp
    go_frame
    refine Float.step (v := .bool (hasB s.data.toList 98)) (by rfl) (fun w' hw' => Float.call_at ?_ ((has_any s 98 w' hsz).mono fun e w'' h2 => ⟨h2.1, h2.2 ▸ hw'⟩)) ?_
    · go_simp
    go_frame
    refine Float.step (v := .bool (regOk (hasB s.data.toList 98) b)) (by rfl) (fun w' hw' => Float.call_at ?_ ((register_any b _ w').mono fun e w'' h2 => ⟨h2.1, h2.2 ▸ hw'⟩)) ?_
    · go_simp
    go_frame
    refine Float.step (v := .bool true) (by rfl) (fun w' hw' => Float.value_at ?_) ?_
    · have q := R2.out
      go_simp
    go_frame
    refine Float.step (v := .bool true) (by rfl) (fun w' hw' => Float.value_at ?_) ?_
    · go_simp
    go_frame
    refine Float.step (v := .bool true) (by rfl) (fun w' hw' => Float.value_at ?_) ?_
    · go_simp
    go_frame
    refine Float.skip (by rfl) ?_
    go_frame
    refine Float.skip (by rfl) ?_
    go_frame
    refine Float.skip (by rfl) ?_
    go_frame
    refine Float.skip (by rfl) ?_
    go_frame
    refine Float.skip (by rfl) ?_
    go_frame
    refine Float.skip (by rfl) ?_
    go_frame
    refine Float.step (v := .bool true) (by rfl) (fun w' hw' => Float.value_at ?_) ?_
    · go_simp
    go_frame
    refine wpQuiet_nil ?_
    intro w4 hB4
    go_wp2
    go_ret
    exact ⟨by simp [legalS, R1.out, R2.out], HB.trans (hB4.mono HB.size)⟩
  · have R1 := Lib.hid hr1
    have R2 := Lib.hid hr2
    have R3 := Lib.hid hr3
    clear hr1 hr2 hr3
    go_enter Tryd.func26, Tryd.ntmps26
    go_wp2_with (go_at_call 14; refine (rshape_yes i _ h1 h2).mono ?_; rintro e w' ⟨rfl, rfl⟩; rw [← HS.out, ← HW.out])
    refine Float.wp_region_below (by kernel_rfl) (by kernel_rfl) ?_
    refine Float.step (v := .bool true) (by rfl) (fun w' hw' => Float.value_at ?_) ?_
    · go_simp
    go_frame
    refine Float.step (v := .bool false) (by rfl) (fun w' hw' => Float.value_at ?_) ?_
    · go_simp
    go_frame
    refine Float.step (v := .bool false) (by rfl) (fun w' hw' => Float.value_at ?_) ?_
    · go_simp
    go_frame
    refine Float.step (v := .pointer (some ⟨w.heap.size, 1, none⟩)) (by rfl) (fun w' hw' => Float.value_at ?_) ?_
    · go_simp
    go_frame
    refine Float.step (v := .int .u8 a) (by rfl) (fun w' hw' => Float.value_at ?_) ?_
    · obtain ⟨y0, y1, y2, y3, y4⟩ := HC w' hw'
      go_simp
    go_frame
    refine Float.step (v := .string s) (by rfl) (fun w' hw' => Float.value_at ?_) ?_
    · go_simp
    go_frame
    refine Float.step (v := .bool (hasB s.data.toList 97)) (by rfl) (fun w' hw' => Float.call_at ?_ ((has_any s 97 w' hsz).mono fun e w'' h2 => ⟨h2.1, h2.2 ▸ hw'⟩)) ?_
    · go_simp
    go_frame
    refine Float.step (v := .bool (regOk (hasB s.data.toList 97) a)) (by rfl) (fun w' hw' => Float.call_at ?_ ((register_any a _ w').mono fun e w'' h2 => ⟨h2.1, h2.2 ▸ hw'⟩)) ?_
    · go_simp
    go_frame
    refine Float.step (v := .bool false) (by rfl) (fun w' hw' => Float.value_at ?_) ?_
    · have q := R1.out
      go_simp
    go_frame
    refine Float.step (v := .bool false) (by rfl) (fun w' hw' => Float.value_at ?_) ?_
    · go_simp
    go_frame
    refine Float.step (v := .bool false) (by rfl) (fun w' hw' => Float.value_at ?_) ?_
    · go_simp
    go_frame
    refine Float.step (v := .pointer (some ⟨w.heap.size, 2, none⟩)) (by rfl) (fun w' hw' => Float.value_at ?_) ?_
    · go_simp
    go_frame
    refine Float.step (v := .int .u8 b) (by rfl) (fun w' hw' => Float.value_at ?_) ?_
    · obtain ⟨y0, y1, y2, y3, y4⟩ := HC w' hw'
      go_simp
    go_frame
    refine Float.step (v := .string s) (by rfl) (fun w' hw' => Float.value_at ?_) ?_
    · go_simp
    go_frame
    refine Float.step (v := .bool (hasB s.data.toList 98)) (by rfl) (fun w' hw' => Float.call_at ?_ ((has_any s 98 w' hsz).mono fun e w'' h2 => ⟨h2.1, h2.2 ▸ hw'⟩)) ?_
    · go_simp
    go_frame
    refine Float.step (v := .bool (regOk (hasB s.data.toList 98) b)) (by rfl) (fun w' hw' => Float.call_at ?_ ((register_any b _ w').mono fun e w'' h2 => ⟨h2.1, h2.2 ▸ hw'⟩)) ?_
    · go_simp
    go_frame
    refine Float.step (v := .bool false) (by rfl) (fun w' hw' => Float.value_at ?_) ?_
    · have q := R2.out
      go_simp
    go_frame
    refine Float.step (v := .bool false) (by rfl) (fun w' hw' => Float.value_at ?_) ?_
    · go_simp
    go_frame
    refine Float.step (v := .bool false) (by rfl) (fun w' hw' => Float.value_at ?_) ?_
    · go_simp
    go_frame
    refine Float.step (v := .pointer (some ⟨w.heap.size, 3, none⟩)) (by rfl) (fun w' hw' => Float.value_at ?_) ?_
    · go_simp
    go_frame
    refine Float.step (v := .int .u8 c) (by rfl) (fun w' hw' => Float.value_at ?_) ?_
    · obtain ⟨y0, y1, y2, y3, y4⟩ := HC w' hw'
      go_simp
    go_frame
    refine Float.step (v := .string s) (by rfl) (fun w' hw' => Float.value_at ?_) ?_
    · go_simp
    go_frame
    refine Float.step (v := .bool (hasB s.data.toList 99)) (by rfl) (fun w' hw' => Float.call_at ?_ ((has_any s 99 w' hsz).mono fun e w'' h2 => ⟨h2.1, h2.2 ▸ hw'⟩)) ?_
    · go_simp
    go_frame
    refine Float.step (v := .bool (regOk (hasB s.data.toList 99) c)) (by rfl) (fun w' hw' => Float.call_at ?_ ((register_any c _ w').mono fun e w'' h2 => ⟨h2.1, h2.2 ▸ hw'⟩)) ?_
    · go_simp
    go_frame
    refine Float.step (v := .bool true) (by rfl) (fun w' hw' => Float.value_at ?_) ?_
    · have q := R3.out
      go_simp
    go_frame
    refine Float.step (v := .bool true) (by rfl) (fun w' hw' => Float.value_at ?_) ?_
    · go_simp
    go_frame
    refine wpQuiet_nil ?_
    intro w4 hB4
    go_wp2
    go_ret
    exact ⟨by simp [legalS, R1.out, R2.out, R3.out], HB.trans (hB4.mono HB.size)⟩
end Go.Proofs.YtcbhkeinmdobhaaDoor
