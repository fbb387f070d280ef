import Derived.Test.YtcbhkeinmdobhaaDoorLe
namespace Go.Proofs.YtcbhkeinmdobhaaDoor
open Go.ChangeShapes Go.WideShapes Go.ChangeAt Go.RowKit
set_option linter.unusedVariables false
set_option linter.unusedSimpArgs false

def jumpB (op a b c n : Int) : Bool := legalB op a b c n && (decide (op = 25) || (hasB (opShapes.getD op.toNat []) 112))
def jumpV (op a b c n : Int) : Int := if jumpB op a b c n then (if op = 25 then -1 else n) else 0

theorem jumps_no (op a b c n : Int) (w : World) (h0 : 0 ≤ op) (h2 : op < 256) (ha : 0 ≤ a) (hb : 0 ≤ b) (hc : 0 ≤ c) (hT : TabOk w) (hz : 0 < w.heap.size) (hl : legalB op a b c n = false) :
    Calls Tryd.prog 23 #[ins op a b c n] w fun e w' => e = .returned (.tuple #[.int .i64 0, .bool false]) ∧ Below w.heap.size w w' := by
  have hT' : TabOk (w.alloc (.cells #[.int .u8 op, .int .u8 a, .int .u8 b, .int .u8 c, .int .i32 n] 26)) := fun i hi => by
    have hb := ((Below.refl w.heap.size w).alloc (Nat.le_refl _) (.cells #[.int .u8 op, .int .u8 a, .int .u8 b, .int .u8 c, .int .i32 n] 26))
    exact ⟨(hb.cell (p := ⟨0, i * 2, none⟩) hz).trans (hT i hi).1, (hb.cell (p := ⟨0, i * 2 + 1, none⟩) hz).trans (hT i hi).2⟩
  have HL := Lib.hid hl
  have HT := Lib.hid hT'
  clear hT hT' hl
  go_enter Tryd.func23, Tryd.ntmps23
  go_wp2_with (go_at_call 25; refine (legal op a b c n _ h0 h2 ha hb hc HT.out (by simp)).mono ?_; rintro e w' ⟨rfl, hb1⟩; rw [HL.out])
  go_ret2
  exact ⟨rfl, (((Below.refl _ _).alloc (Nat.le_refl _) _)).trans (hb1.mono (by simp))⟩

theorem jumps_r (i : Nat) (a b c n : Int) (w : World) (s : ByteArray) (h1 : 1 ≤ i) (h2 : i ≤ 27) (ha : 0 ≤ a) (hb : 0 ≤ b) (hc : 0 ≤ c) (hn0 : -2147483648 ≤ n) (hn1 : n ≤ 2147483647) (hT : TabOk w) (hz : 0 < w.heap.size) (hl : legalB i a b c n = true) (hs : nameB i = s) (t0 : (s.toList == [106, 109, 114]) = true) :
    Calls Tryd.prog 23 #[ins i a b c n] w fun e w' => e = .returned (.tuple #[.int .i64 (-1), .bool true]) ∧ Below w.heap.size w w' := by
  have hT' : TabOk (w.alloc (.cells #[.int .u8 i, .int .u8 a, .int .u8 b, .int .u8 c, .int .i32 n] 26)) := fun j hi => by
    have hb := ((Below.refl w.heap.size w).alloc (Nat.le_refl _) (.cells #[.int .u8 i, .int .u8 a, .int .u8 b, .int .u8 c, .int .i32 n] 26))
    exact ⟨(hb.cell (p := ⟨0, j * 2, none⟩) hz).trans (hT j hi).1, (hb.cell (p := ⟨0, j * 2 + 1, none⟩) hz).trans (hT j hi).2⟩
  have HL := Lib.hid hl
  have HT := Lib.hid hT'
  have HS := Lib.hid hs
  clear hT hT' hl hs
  go_enter Tryd.func23, Tryd.ntmps23
  go_wp2_with (go_at_call 25; refine (legal i a b c n _ (by omega) (by omega) ha hb hc HT.out (by simp)).mono ?_; rintro e w' ⟨rfl, hb1⟩; rw [HL.out]; (obtain ⟨bc, bf⟩ := bcell hb1); (have hnm : w'.cell? ⟨0, i * 2, none⟩ = some (.string s) := (by rw [bc _ _ (by simp), ← HS.out]; exact (HT.out i (by omega)).1)); (have hx0 := bc w.heap.size 0 (by simp)); (have hx4 := bc w.heap.size 4 (by simp)); (simp [World.cell?_alloc_new] at hx0 hx4); (clear bc bf))
  go_ret2
  exact ⟨by rfl, (((Below.refl _ _).alloc (Nat.le_refl _) _)).trans (hb1.mono (by simp))⟩
theorem jumps_p1 (i : Nat) (a b c n : Int) (w : World) (s : ByteArray) (h1 : 1 ≤ i) (h2 : i ≤ 27) (ha : 0 ≤ a) (hb : 0 ≤ b) (hc : 0 ≤ c) (hn0 : -2147483648 ≤ n) (hn1 : n ≤ 2147483647) (hT : TabOk w) (hz : 0 < w.heap.size) (hl : legalB i a b c n = true) (hs : nameB i = s) (t0 : (s.toList == [106, 109, 114]) = false) (t1 : (s.toList == [106, 109, 112]) = true) :
    Calls Tryd.prog 23 #[ins i a b c n] w fun e w' => e = .returned (.tuple #[.int .i64 n, .bool true]) ∧ Below w.heap.size w w' := by
  have hT' : TabOk (w.alloc (.cells #[.int .u8 i, .int .u8 a, .int .u8 b, .int .u8 c, .int .i32 n] 26)) := fun j hi => by
    have hb := ((Below.refl w.heap.size w).alloc (Nat.le_refl _) (.cells #[.int .u8 i, .int .u8 a, .int .u8 b, .int .u8 c, .int .i32 n] 26))
    exact ⟨(hb.cell (p := ⟨0, j * 2, none⟩) hz).trans (hT j hi).1, (hb.cell (p := ⟨0, j * 2 + 1, none⟩) hz).trans (hT j hi).2⟩
  have HL := Lib.hid hl
  have HT := Lib.hid hT'
  have HS := Lib.hid hs
  clear hT hT' hl hs
  go_enter Tryd.func23, Tryd.ntmps23
  go_wp2_with (go_at_call 25; refine (legal i a b c n _ (by omega) (by omega) ha hb hc HT.out (by simp)).mono ?_; rintro e w' ⟨rfl, hb1⟩; rw [HL.out]; (obtain ⟨bc, bf⟩ := bcell hb1); (have hnm : w'.cell? ⟨0, i * 2, none⟩ = some (.string s) := (by rw [bc _ _ (by simp), ← HS.out]; exact (HT.out i (by omega)).1)); (have hx0 := bc w.heap.size 0 (by simp)); (have hx4 := bc w.heap.size 4 (by simp)); (simp [World.cell?_alloc_new] at hx0 hx4); (clear bc bf))
  go_ret2
  exact ⟨by rfl, (((Below.refl _ _).alloc (Nat.le_refl _) _)).trans (hb1.mono (by simp))⟩
theorem jumps_p2 (i : Nat) (a b c n : Int) (w : World) (s : ByteArray) (h1 : 1 ≤ i) (h2 : i ≤ 27) (ha : 0 ≤ a) (hb : 0 ≤ b) (hc : 0 ≤ c) (hn0 : -2147483648 ≤ n) (hn1 : n ≤ 2147483647) (hT : TabOk w) (hz : 0 < w.heap.size) (hl : legalB i a b c n = true) (hs : nameB i = s) (t0 : (s.toList == [106, 109, 114]) = false) (t1 : (s.toList == [106, 109, 112]) = false) (t2 : (s.toList == [106, 122]) = true) :
    Calls Tryd.prog 23 #[ins i a b c n] w fun e w' => e = .returned (.tuple #[.int .i64 n, .bool true]) ∧ Below w.heap.size w w' := by
  have hT' : TabOk (w.alloc (.cells #[.int .u8 i, .int .u8 a, .int .u8 b, .int .u8 c, .int .i32 n] 26)) := fun j hi => by
    have hb := ((Below.refl w.heap.size w).alloc (Nat.le_refl _) (.cells #[.int .u8 i, .int .u8 a, .int .u8 b, .int .u8 c, .int .i32 n] 26))
    exact ⟨(hb.cell (p := ⟨0, j * 2, none⟩) hz).trans (hT j hi).1, (hb.cell (p := ⟨0, j * 2 + 1, none⟩) hz).trans (hT j hi).2⟩
  have HL := Lib.hid hl
  have HT := Lib.hid hT'
  have HS := Lib.hid hs
  clear hT hT' hl hs
  go_enter Tryd.func23, Tryd.ntmps23
  go_wp2_with (go_at_call 25; refine (legal i a b c n _ (by omega) (by omega) ha hb hc HT.out (by simp)).mono ?_; rintro e w' ⟨rfl, hb1⟩; rw [HL.out]; (obtain ⟨bc, bf⟩ := bcell hb1); (have hnm : w'.cell? ⟨0, i * 2, none⟩ = some (.string s) := (by rw [bc _ _ (by simp), ← HS.out]; exact (HT.out i (by omega)).1)); (have hx0 := bc w.heap.size 0 (by simp)); (have hx4 := bc w.heap.size 4 (by simp)); (simp [World.cell?_alloc_new] at hx0 hx4); (clear bc bf))
  go_ret2
  exact ⟨by rfl, (((Below.refl _ _).alloc (Nat.le_refl _) _)).trans (hb1.mono (by simp))⟩
theorem jumps_p3 (i : Nat) (a b c n : Int) (w : World) (s : ByteArray) (h1 : 1 ≤ i) (h2 : i ≤ 27) (ha : 0 ≤ a) (hb : 0 ≤ b) (hc : 0 ≤ c) (hn0 : -2147483648 ≤ n) (hn1 : n ≤ 2147483647) (hT : TabOk w) (hz : 0 < w.heap.size) (hl : legalB i a b c n = true) (hs : nameB i = s) (t0 : (s.toList == [106, 109, 114]) = false) (t1 : (s.toList == [106, 109, 112]) = false) (t2 : (s.toList == [106, 122]) = false) (t3 : (s.toList == [106, 110, 122]) = true) :
    Calls Tryd.prog 23 #[ins i a b c n] w fun e w' => e = .returned (.tuple #[.int .i64 n, .bool true]) ∧ Below w.heap.size w w' := by
  have hT' : TabOk (w.alloc (.cells #[.int .u8 i, .int .u8 a, .int .u8 b, .int .u8 c, .int .i32 n] 26)) := fun j hi => by
    have hb := ((Below.refl w.heap.size w).alloc (Nat.le_refl _) (.cells #[.int .u8 i, .int .u8 a, .int .u8 b, .int .u8 c, .int .i32 n] 26))
    exact ⟨(hb.cell (p := ⟨0, j * 2, none⟩) hz).trans (hT j hi).1, (hb.cell (p := ⟨0, j * 2 + 1, none⟩) hz).trans (hT j hi).2⟩
  have HL := Lib.hid hl
  have HT := Lib.hid hT'
  have HS := Lib.hid hs
  clear hT hT' hl hs
  go_enter Tryd.func23, Tryd.ntmps23
  go_wp2_with (go_at_call 25; refine (legal i a b c n _ (by omega) (by omega) ha hb hc HT.out (by simp)).mono ?_; rintro e w' ⟨rfl, hb1⟩; rw [HL.out]; (obtain ⟨bc, bf⟩ := bcell hb1); (have hnm : w'.cell? ⟨0, i * 2, none⟩ = some (.string s) := (by rw [bc _ _ (by simp), ← HS.out]; exact (HT.out i (by omega)).1)); (have hx0 := bc w.heap.size 0 (by simp)); (have hx4 := bc w.heap.size 4 (by simp)); (simp [World.cell?_alloc_new] at hx0 hx4); (clear bc bf))
  go_ret2
  exact ⟨by rfl, (((Below.refl _ _).alloc (Nat.le_refl _) _)).trans (hb1.mono (by simp))⟩
theorem jumps_p4 (i : Nat) (a b c n : Int) (w : World) (s : ByteArray) (h1 : 1 ≤ i) (h2 : i ≤ 27) (ha : 0 ≤ a) (hb : 0 ≤ b) (hc : 0 ≤ c) (hn0 : -2147483648 ≤ n) (hn1 : n ≤ 2147483647) (hT : TabOk w) (hz : 0 < w.heap.size) (hl : legalB i a b c n = true) (hs : nameB i = s) (t0 : (s.toList == [106, 109, 114]) = false) (t1 : (s.toList == [106, 109, 112]) = false) (t2 : (s.toList == [106, 122]) = false) (t3 : (s.toList == [106, 110, 122]) = false) (t4 : (s.toList == [99, 97, 108, 108]) = true) :
    Calls Tryd.prog 23 #[ins i a b c n] w fun e w' => e = .returned (.tuple #[.int .i64 n, .bool true]) ∧ Below w.heap.size w w' := by
  have hT' : TabOk (w.alloc (.cells #[.int .u8 i, .int .u8 a, .int .u8 b, .int .u8 c, .int .i32 n] 26)) := fun j hi => by
    have hb := ((Below.refl w.heap.size w).alloc (Nat.le_refl _) (.cells #[.int .u8 i, .int .u8 a, .int .u8 b, .int .u8 c, .int .i32 n] 26))
    exact ⟨(hb.cell (p := ⟨0, j * 2, none⟩) hz).trans (hT j hi).1, (hb.cell (p := ⟨0, j * 2 + 1, none⟩) hz).trans (hT j hi).2⟩
  have HL := Lib.hid hl
  have HT := Lib.hid hT'
  have HS := Lib.hid hs
  clear hT hT' hl hs
  go_enter Tryd.func23, Tryd.ntmps23
  go_wp2_with (go_at_call 25; refine (legal i a b c n _ (by omega) (by omega) ha hb hc HT.out (by simp)).mono ?_; rintro e w' ⟨rfl, hb1⟩; rw [HL.out]; (obtain ⟨bc, bf⟩ := bcell hb1); (have hnm : w'.cell? ⟨0, i * 2, none⟩ = some (.string s) := (by rw [bc _ _ (by simp), ← HS.out]; exact (HT.out i (by omega)).1)); (have hx0 := bc w.heap.size 0 (by simp)); (have hx4 := bc w.heap.size 4 (by simp)); (simp [World.cell?_alloc_new] at hx0 hx4); (clear bc bf))
  go_ret2
  exact ⟨by rfl, (((Below.refl _ _).alloc (Nat.le_refl _) _)).trans (hb1.mono (by simp))⟩
theorem jumps_o (i : Nat) (a b c n : Int) (w : World) (s : ByteArray) (h1 : 1 ≤ i) (h2 : i ≤ 27) (ha : 0 ≤ a) (hb : 0 ≤ b) (hc : 0 ≤ c) (hn0 : -2147483648 ≤ n) (hn1 : n ≤ 2147483647) (hT : TabOk w) (hz : 0 < w.heap.size) (hl : legalB i a b c n = true) (hs : nameB i = s) (t0 : (s.toList == [106, 109, 114]) = false) (t1 : (s.toList == [106, 109, 112]) = false) (t2 : (s.toList == [106, 122]) = false) (t3 : (s.toList == [106, 110, 122]) = false) (t4 : (s.toList == [99, 97, 108, 108]) = false) :
    Calls Tryd.prog 23 #[ins i a b c n] w fun e w' => e = .returned (.tuple #[.int .i64 0, .bool false]) ∧ Below w.heap.size w w' := by
  have hT' : TabOk (w.alloc (.cells #[.int .u8 i, .int .u8 a, .int .u8 b, .int .u8 c, .int .i32 n] 26)) := fun j hi => by
    have hb := ((Below.refl w.heap.size w).alloc (Nat.le_refl _) (.cells #[.int .u8 i, .int .u8 a, .int .u8 b, .int .u8 c, .int .i32 n] 26))
    exact ⟨(hb.cell (p := ⟨0, j * 2, none⟩) hz).trans (hT j hi).1, (hb.cell (p := ⟨0, j * 2 + 1, none⟩) hz).trans (hT j hi).2⟩
  have HL := Lib.hid hl
  have HT := Lib.hid hT'
  have HS := Lib.hid hs
  clear hT hT' hl hs
  go_enter Tryd.func23, Tryd.ntmps23
  go_wp2_with (go_at_call 25; refine (legal i a b c n _ (by omega) (by omega) ha hb hc HT.out (by simp)).mono ?_; rintro e w' ⟨rfl, hb1⟩; rw [HL.out]; (obtain ⟨bc, bf⟩ := bcell hb1); (have hnm : w'.cell? ⟨0, i * 2, none⟩ = some (.string s) := (by rw [bc _ _ (by simp), ← HS.out]; exact (HT.out i (by omega)).1)); (have hx0 := bc w.heap.size 0 (by simp)); (have hx4 := bc w.heap.size 4 (by simp)); (simp [World.cell?_alloc_new] at hx0 hx4); (clear bc bf))
  go_ret2
  exact ⟨by rfl, (((Below.refl _ _).alloc (Nat.le_refl _) _)).trans (hb1.mono (by simp))⟩
theorem jumps (op a b c n : Int) (w : World) (h0 : 0 ≤ op) (h2 : op < 256) (ha : 0 ≤ a) (hb : 0 ≤ b) (hc : 0 ≤ c) (hn0 : -2147483648 ≤ n) (hn1 : n ≤ 2147483647) (hT : TabOk w) (hz : 0 < w.heap.size) :
    Calls Tryd.prog 23 #[ins op a b c n] w fun e w' => e = .returned (.tuple #[.int .i64 (jumpV op a b c n), .bool (jumpB op a b c n)]) ∧ Below w.heap.size w w' := by
  rcases hl : legalB op a b c n with _ | _
  · have := jumps_no op a b c n w h0 h2 ha hb hc hT hz hl
    simpa [jumpV, jumpB, hl] using this
  · have hr : 1 ≤ op ∧ op ≤ 27 := by
      unfold legalB at hl
      rw [Bool.and_eq_true] at hl
      simpa using hl.1
    obtain ⟨i, rfl⟩ := Int.eq_ofNat_of_zero_le h0
    have : i = 1 ∨ i = 2 ∨ i = 3 ∨ i = 4 ∨ i = 5 ∨ i = 6 ∨ i = 7 ∨ i = 8 ∨ i = 9 ∨ i = 10 ∨ i = 11 ∨ i = 12 ∨ i = 13 ∨ i = 14 ∨ i = 15 ∨ i = 16 ∨ i = 17 ∨ i = 18 ∨ i = 19 ∨ i = 20 ∨ i = 21 ∨ i = 22 ∨ i = 23 ∨ i = 24 ∨ i = 25 ∨ i = 26 ∨ i = 27 := by omega
    rcases this with rfl | rfl | rfl | rfl | rfl | rfl | rfl | rfl | rfl | rfl | rfl | rfl | rfl | rfl | rfl | rfl | rfl | rfl | rfl | rfl | rfl | rfl | rfl | rfl | rfl | rfl | rfl
    · have q := jumps_o 1 a b c n w _ (by omega) (by omega) ha hb hc hn0 hn1 hT hz hl rfl (by kernel_rfl) (by kernel_rfl) (by kernel_rfl) (by kernel_rfl) (by kernel_rfl)
      have e1 : jumpB ((1 : Nat) : Int) a b c n = false := by unfold jumpB; rw [hl]; rfl
      have e2 : jumpV ((1 : Nat) : Int) a b c n = 0 := by unfold jumpV; rw [e1]; rfl
      rw [e1, e2]
      exact q
    · have q := jumps_o 2 a b c n w _ (by omega) (by omega) ha hb hc hn0 hn1 hT hz hl rfl (by kernel_rfl) (by kernel_rfl) (by kernel_rfl) (by kernel_rfl) (by kernel_rfl)
      have e1 : jumpB ((2 : Nat) : Int) a b c n = false := by unfold jumpB; rw [hl]; rfl
      have e2 : jumpV ((2 : Nat) : Int) a b c n = 0 := by unfold jumpV; rw [e1]; rfl
      rw [e1, e2]
      exact q
    · have q := jumps_o 3 a b c n w _ (by omega) (by omega) ha hb hc hn0 hn1 hT hz hl rfl (by kernel_rfl) (by kernel_rfl) (by kernel_rfl) (by kernel_rfl) (by kernel_rfl)
      have e1 : jumpB ((3 : Nat) : Int) a b c n = false := by unfold jumpB; rw [hl]; rfl
      have e2 : jumpV ((3 : Nat) : Int) a b c n = 0 := by unfold jumpV; rw [e1]; rfl
      rw [e1, e2]
      exact q
    · have q := jumps_o 4 a b c n w _ (by omega) (by omega) ha hb hc hn0 hn1 hT hz hl rfl (by kernel_rfl) (by kernel_rfl) (by kernel_rfl) (by kernel_rfl) (by kernel_rfl)
      have e1 : jumpB ((4 : Nat) : Int) a b c n = false := by unfold jumpB; rw [hl]; rfl
      have e2 : jumpV ((4 : Nat) : Int) a b c n = 0 := by unfold jumpV; rw [e1]; rfl
      rw [e1, e2]
      exact q
    · have q := jumps_o 5 a b c n w _ (by omega) (by omega) ha hb hc hn0 hn1 hT hz hl rfl (by kernel_rfl) (by kernel_rfl) (by kernel_rfl) (by kernel_rfl) (by kernel_rfl)
      have e1 : jumpB ((5 : Nat) : Int) a b c n = false := by unfold jumpB; rw [hl]; rfl
      have e2 : jumpV ((5 : Nat) : Int) a b c n = 0 := by unfold jumpV; rw [e1]; rfl
      rw [e1, e2]
      exact q
    · have q := jumps_o 6 a b c n w _ (by omega) (by omega) ha hb hc hn0 hn1 hT hz hl rfl (by kernel_rfl) (by kernel_rfl) (by kernel_rfl) (by kernel_rfl) (by kernel_rfl)
      have e1 : jumpB ((6 : Nat) : Int) a b c n = false := by unfold jumpB; rw [hl]; rfl
      have e2 : jumpV ((6 : Nat) : Int) a b c n = 0 := by unfold jumpV; rw [e1]; rfl
      rw [e1, e2]
      exact q
    · have q := jumps_o 7 a b c n w _ (by omega) (by omega) ha hb hc hn0 hn1 hT hz hl rfl (by kernel_rfl) (by kernel_rfl) (by kernel_rfl) (by kernel_rfl) (by kernel_rfl)
      have e1 : jumpB ((7 : Nat) : Int) a b c n = false := by unfold jumpB; rw [hl]; rfl
      have e2 : jumpV ((7 : Nat) : Int) a b c n = 0 := by unfold jumpV; rw [e1]; rfl
      rw [e1, e2]
      exact q
    · have q := jumps_o 8 a b c n w _ (by omega) (by omega) ha hb hc hn0 hn1 hT hz hl rfl (by kernel_rfl) (by kernel_rfl) (by kernel_rfl) (by kernel_rfl) (by kernel_rfl)
      have e1 : jumpB ((8 : Nat) : Int) a b c n = false := by unfold jumpB; rw [hl]; rfl
      have e2 : jumpV ((8 : Nat) : Int) a b c n = 0 := by unfold jumpV; rw [e1]; rfl
      rw [e1, e2]
      exact q
    · have q := jumps_o 9 a b c n w _ (by omega) (by omega) ha hb hc hn0 hn1 hT hz hl rfl (by kernel_rfl) (by kernel_rfl) (by kernel_rfl) (by kernel_rfl) (by kernel_rfl)
      have e1 : jumpB ((9 : Nat) : Int) a b c n = false := by unfold jumpB; rw [hl]; rfl
      have e2 : jumpV ((9 : Nat) : Int) a b c n = 0 := by unfold jumpV; rw [e1]; rfl
      rw [e1, e2]
      exact q
    · have q := jumps_o 10 a b c n w _ (by omega) (by omega) ha hb hc hn0 hn1 hT hz hl rfl (by kernel_rfl) (by kernel_rfl) (by kernel_rfl) (by kernel_rfl) (by kernel_rfl)
      have e1 : jumpB ((10 : Nat) : Int) a b c n = false := by unfold jumpB; rw [hl]; rfl
      have e2 : jumpV ((10 : Nat) : Int) a b c n = 0 := by unfold jumpV; rw [e1]; rfl
      rw [e1, e2]
      exact q
    · have q := jumps_o 11 a b c n w _ (by omega) (by omega) ha hb hc hn0 hn1 hT hz hl rfl (by kernel_rfl) (by kernel_rfl) (by kernel_rfl) (by kernel_rfl) (by kernel_rfl)
      have e1 : jumpB ((11 : Nat) : Int) a b c n = false := by unfold jumpB; rw [hl]; rfl
      have e2 : jumpV ((11 : Nat) : Int) a b c n = 0 := by unfold jumpV; rw [e1]; rfl
      rw [e1, e2]
      exact q
    · have q := jumps_o 12 a b c n w _ (by omega) (by omega) ha hb hc hn0 hn1 hT hz hl rfl (by kernel_rfl) (by kernel_rfl) (by kernel_rfl) (by kernel_rfl) (by kernel_rfl)
      have e1 : jumpB ((12 : Nat) : Int) a b c n = false := by unfold jumpB; rw [hl]; rfl
      have e2 : jumpV ((12 : Nat) : Int) a b c n = 0 := by unfold jumpV; rw [e1]; rfl
      rw [e1, e2]
      exact q
    · have q := jumps_o 13 a b c n w _ (by omega) (by omega) ha hb hc hn0 hn1 hT hz hl rfl (by kernel_rfl) (by kernel_rfl) (by kernel_rfl) (by kernel_rfl) (by kernel_rfl)
      have e1 : jumpB ((13 : Nat) : Int) a b c n = false := by unfold jumpB; rw [hl]; rfl
      have e2 : jumpV ((13 : Nat) : Int) a b c n = 0 := by unfold jumpV; rw [e1]; rfl
      rw [e1, e2]
      exact q
    · have q := jumps_o 14 a b c n w _ (by omega) (by omega) ha hb hc hn0 hn1 hT hz hl rfl (by kernel_rfl) (by kernel_rfl) (by kernel_rfl) (by kernel_rfl) (by kernel_rfl)
      have e1 : jumpB ((14 : Nat) : Int) a b c n = false := by unfold jumpB; rw [hl]; rfl
      have e2 : jumpV ((14 : Nat) : Int) a b c n = 0 := by unfold jumpV; rw [e1]; rfl
      rw [e1, e2]
      exact q
    · have q := jumps_o 15 a b c n w _ (by omega) (by omega) ha hb hc hn0 hn1 hT hz hl rfl (by kernel_rfl) (by kernel_rfl) (by kernel_rfl) (by kernel_rfl) (by kernel_rfl)
      have e1 : jumpB ((15 : Nat) : Int) a b c n = false := by unfold jumpB; rw [hl]; rfl
      have e2 : jumpV ((15 : Nat) : Int) a b c n = 0 := by unfold jumpV; rw [e1]; rfl
      rw [e1, e2]
      exact q
    · have q := jumps_o 16 a b c n w _ (by omega) (by omega) ha hb hc hn0 hn1 hT hz hl rfl (by kernel_rfl) (by kernel_rfl) (by kernel_rfl) (by kernel_rfl) (by kernel_rfl)
      have e1 : jumpB ((16 : Nat) : Int) a b c n = false := by unfold jumpB; rw [hl]; rfl
      have e2 : jumpV ((16 : Nat) : Int) a b c n = 0 := by unfold jumpV; rw [e1]; rfl
      rw [e1, e2]
      exact q
    · have q := jumps_o 17 a b c n w _ (by omega) (by omega) ha hb hc hn0 hn1 hT hz hl rfl (by kernel_rfl) (by kernel_rfl) (by kernel_rfl) (by kernel_rfl) (by kernel_rfl)
      have e1 : jumpB ((17 : Nat) : Int) a b c n = false := by unfold jumpB; rw [hl]; rfl
      have e2 : jumpV ((17 : Nat) : Int) a b c n = 0 := by unfold jumpV; rw [e1]; rfl
      rw [e1, e2]
      exact q
    · have q := jumps_o 18 a b c n w _ (by omega) (by omega) ha hb hc hn0 hn1 hT hz hl rfl (by kernel_rfl) (by kernel_rfl) (by kernel_rfl) (by kernel_rfl) (by kernel_rfl)
      have e1 : jumpB ((18 : Nat) : Int) a b c n = false := by unfold jumpB; rw [hl]; rfl
      have e2 : jumpV ((18 : Nat) : Int) a b c n = 0 := by unfold jumpV; rw [e1]; rfl
      rw [e1, e2]
      exact q
    · have q := jumps_o 19 a b c n w _ (by omega) (by omega) ha hb hc hn0 hn1 hT hz hl rfl (by kernel_rfl) (by kernel_rfl) (by kernel_rfl) (by kernel_rfl) (by kernel_rfl)
      have e1 : jumpB ((19 : Nat) : Int) a b c n = false := by unfold jumpB; rw [hl]; rfl
      have e2 : jumpV ((19 : Nat) : Int) a b c n = 0 := by unfold jumpV; rw [e1]; rfl
      rw [e1, e2]
      exact q
    · have q := jumps_o 20 a b c n w _ (by omega) (by omega) ha hb hc hn0 hn1 hT hz hl rfl (by kernel_rfl) (by kernel_rfl) (by kernel_rfl) (by kernel_rfl) (by kernel_rfl)
      have e1 : jumpB ((20 : Nat) : Int) a b c n = false := by unfold jumpB; rw [hl]; rfl
      have e2 : jumpV ((20 : Nat) : Int) a b c n = 0 := by unfold jumpV; rw [e1]; rfl
      rw [e1, e2]
      exact q
    · have q := jumps_o 21 a b c n w _ (by omega) (by omega) ha hb hc hn0 hn1 hT hz hl rfl (by kernel_rfl) (by kernel_rfl) (by kernel_rfl) (by kernel_rfl) (by kernel_rfl)
      have e1 : jumpB ((21 : Nat) : Int) a b c n = false := by unfold jumpB; rw [hl]; rfl
      have e2 : jumpV ((21 : Nat) : Int) a b c n = 0 := by unfold jumpV; rw [e1]; rfl
      rw [e1, e2]
      exact q
    · have q := jumps_p1 22 a b c n w _ (by omega) (by omega) ha hb hc hn0 hn1 hT hz hl rfl (by kernel_rfl) (by kernel_rfl)
      have e1 : jumpB ((22 : Nat) : Int) a b c n = true := by unfold jumpB; rw [hl]; rfl
      have e2 : jumpV ((22 : Nat) : Int) a b c n = n := by unfold jumpV; rw [e1]; rfl
      rw [e1, e2]
      exact q
    · have q := jumps_p2 23 a b c n w _ (by omega) (by omega) ha hb hc hn0 hn1 hT hz hl rfl (by kernel_rfl) (by kernel_rfl) (by kernel_rfl)
      have e1 : jumpB ((23 : Nat) : Int) a b c n = true := by unfold jumpB; rw [hl]; rfl
      have e2 : jumpV ((23 : Nat) : Int) a b c n = n := by unfold jumpV; rw [e1]; rfl
      rw [e1, e2]
      exact q
    · have q := jumps_p3 24 a b c n w _ (by omega) (by omega) ha hb hc hn0 hn1 hT hz hl rfl (by kernel_rfl) (by kernel_rfl) (by kernel_rfl) (by kernel_rfl)
      have e1 : jumpB ((24 : Nat) : Int) a b c n = true := by unfold jumpB; rw [hl]; rfl
      have e2 : jumpV ((24 : Nat) : Int) a b c n = n := by unfold jumpV; rw [e1]; rfl
      rw [e1, e2]
      exact q
    · have q := jumps_r 25 a b c n w _ (by omega) (by omega) ha hb hc hn0 hn1 hT hz hl rfl (by kernel_rfl)
      have e1 : jumpB ((25 : Nat) : Int) a b c n = true := by unfold jumpB; rw [hl]; rfl
      have e2 : jumpV ((25 : Nat) : Int) a b c n = -1 := by unfold jumpV; rw [e1]; rfl
      rw [e1, e2]
      exact q
    · have q := jumps_p4 26 a b c n w _ (by omega) (by omega) ha hb hc hn0 hn1 hT hz hl rfl (by kernel_rfl) (by kernel_rfl) (by kernel_rfl) (by kernel_rfl) (by kernel_rfl)
      have e1 : jumpB ((26 : Nat) : Int) a b c n = true := by unfold jumpB; rw [hl]; rfl
      have e2 : jumpV ((26 : Nat) : Int) a b c n = n := by unfold jumpV; rw [e1]; rfl
      rw [e1, e2]
      exact q
    · have q := jumps_o 27 a b c n w _ (by omega) (by omega) ha hb hc hn0 hn1 hT hz hl rfl (by kernel_rfl) (by kernel_rfl) (by kernel_rfl) (by kernel_rfl) (by kernel_rfl)
      have e1 : jumpB ((27 : Nat) : Int) a b c n = false := by unfold jumpB; rw [hl]; rfl
      have e2 : jumpV ((27 : Nat) : Int) a b c n = 0 := by unfold jumpV; rw [e1]; rfl
      rw [e1, e2]
      exact q
end Go.Proofs.YtcbhkeinmdobhaaDoor
