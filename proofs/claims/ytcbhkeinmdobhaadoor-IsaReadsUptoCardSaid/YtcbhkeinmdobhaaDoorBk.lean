import Derived.Test.YtcbhkeinmdobhaaDoorKn
import Derived.Test.YtcbhkeinmdobhaaDoorMa
import Derived.Maps.RangeWalk
namespace Go.Proofs.YtcbhkeinmdobhaaDoor
open Go.ChangeShapes Go.WideShapes Go.ChangeAt Go.RowKit
set_option linter.unusedVariables false
set_option linter.unusedSimpArgs false

abbrev eight (a b c d e f g h : Int) : Value := .agg #[.int .u8 a, .int .u8 b, .int .u8 c, .int .u8 d, .int .u8 e, .int .u8 f, .int .u8 g, .int .u8 h]
set_option maxRecDepth 100000 in
set_option maxHeartbeats 2000000 in
theorem isaBack_walk (op a b c n : Int) (x0 x1 x2 x3 x4 x5 x6 x7 : Int) (w : World) (T : Tabs w) (hn0 : -2147483648 ≤ n) (hn1 : n ≤ 2147483647) (he : 0 ≤ x4) (he' : x4 < 256) (hf : 0 ≤ x5) (hf' : x5 < 256) (hg : 0 ≤ x6) (hg' : x6 < 256) (hh : 0 ≤ x7) (hh' : x7 < 256) :
    Calls Tryd.prog 4 #[ins op a b c n, eight x0 x1 x2 x3 x4 x5 x6 x7] w fun e w' => e = .returned (.bool true) ∧ Below w.heap.size w w' := by
  obtain ⟨W, hW⟩ : ∃ W : World, W = (w.alloc (.cells #[.int .u8 op, .int .u8 a, .int .u8 b, .int .u8 c, .int .i32 n] 26)).alloc (.cells #[.int .u8 x0, .int .u8 x1, .int .u8 x2, .int .u8 x3, .int .u8 x4, .int .u8 x5, .int .u8 x6, .int .u8 x7] 27) := ⟨_, rfl⟩
  have HC : ∀ w', Below W.heap.size W w' → w'.cell? ⟨w.heap.size, 0, none⟩ = some (.int .u8 op) ∧ w'.cell? ⟨w.heap.size, 1, none⟩ = some (.int .u8 a) ∧ w'.cell? ⟨w.heap.size, 2, none⟩ = some (.int .u8 b) ∧ w'.cell? ⟨w.heap.size, 3, none⟩ = some (.int .u8 c) ∧ w'.cell? ⟨w.heap.size, 4, none⟩ = some (.int .i32 n) := fun w' h => by
    have h3 : Below (w.alloc (.cells #[.int .u8 op, .int .u8 a, .int .u8 b, .int .u8 c, .int .i32 n] 26)).heap.size (w.alloc (.cells #[.int .u8 op, .int .u8 a, .int .u8 b, .int .u8 c, .int .i32 n] 26)) w' := by
      subst hW
      exact ((Below.refl _ _).alloc (Nat.le_refl _) _).trans (h.mono (by simp))
    refine ⟨?_, ?_, ?_, ?_, ?_⟩ <;> (rw [h3.cell (by simp)]; simp [World.cell?_alloc_new])
  have HD : ∀ w', Below W.heap.size W w' → ∀ j v, #[Value.int .u8 x0, .int .u8 x1, .int .u8 x2, .int .u8 x3, .int .u8 x4, .int .u8 x5, .int .u8 x6, .int .u8 x7][j]? = some v → w'.cell? ⟨w.heap.size + 1, j, none⟩ = some v := fun w' h j v hj => by
    rw [h.cell (p := ⟨w.heap.size + 1, j, none⟩) (by subst hW; simp)]
    have e : (w.alloc (.cells #[.int .u8 op, .int .u8 a, .int .u8 b, .int .u8 c, .int .i32 n] 26)).heap.size = w.heap.size + 1 := by simp
    rw [hW, ← e]
    exact new_cell _ _ 27 j v hj
  have HB : Below w.heap.size w W := by rw [hW]; exact ((Below.refl _ _).alloc (Nat.le_refl _) _).alloc (by simp) _
  have HT : ∀ w', Below W.heap.size W w' → Tabs w' := fun w' h => T.at HB h
  have HW := Lib.hid hW
  clear hW
  go_enter Tryd.func4, Tryd.ntmps4
  go_wp2_with fail
  rw [← HW.out]
  refine Float.wp_region_below (by kernel_rfl) (by kernel_rfl) ?_
  refine Float.step (v := .bool true) (by rfl) (fun w' hw' => Float.call_at ?_ ((known_t w' (HT w' hw')).mono fun e w'' h2 => ⟨h2.1, hw'.trans (h2.2.mono hw'.size)⟩)) ?_
  · go_simp
  go_frame
  refine Float.step (v := .bool true) (by rfl) (fun w' hw' => Float.value_at ?_) ?_
  · go_simp
  go_frame
  refine Float.step (v := (ins op a b c n)) (by rfl) (fun w' hw' => Float.value_at ?_) ?_
  · obtain ⟨y0, y1, y2, y3, y4⟩ := HC w' hw'
    go_simp
  go_frame
  refine Float.step (v := (encV op a b c n)) (by rfl) (fun w' hw' => Float.call_at ?_ ((enc_isa op a b c n w').mono fun e w'' h2 => ⟨h2.1, hw'.trans (h2.2.mono hw'.size)⟩)) ?_
  · go_simp
  go_frame
  refine Float.step (v := (ins op a b c n)) (by rfl) (fun w' hw' => Float.call_at ?_ ((dec_isa op a b c (n % 4294967296 / 16777216) (n % 4294967296 / 65536 % 256) (n % 4294967296 / 256 % 256) (n % 256) w' (by omega) (by omega) (by omega) (by omega) (by omega) (by omega) (by omega) (by omega)).mono fun e w'' h2 => ⟨h2.1.trans (by rw [dec_enc op a b c n hn0 hn1]), hw'.trans (h2.2.mono hw'.size)⟩)) ?_
  · go_simp
  go_frame
  refine Float.step (v := (ins op a b c n)) (by rfl) (fun w' hw' => Float.value_at ?_) ?_
  · obtain ⟨y0, y1, y2, y3, y4⟩ := HC w' hw'
    go_simp
  go_frame
  refine Float.step (v := .bool true) (by rfl) (fun w' hw' => Float.value_at ?_) ?_
  · have q := eq5 op a b c n w'
    go_simp
  go_frame
  refine Float.step (v := .bool true) (by rfl) (fun w' hw' => Float.value_at ?_) ?_
  · go_simp
  go_frame
  refine Float.step (v := .bool true) (by rfl) (fun w' hw' => Float.value_at ?_) ?_
  · go_simp
  go_frame
  refine Float.step (v := (eight x0 x1 x2 x3 x4 x5 x6 x7)) (by rfl) (fun w' hw' => Float.value_at ?_) ?_
  · have z0 := HD w' hw' 0 _ rfl
    have z1 := HD w' hw' 1 _ rfl
    have z2 := HD w' hw' 2 _ rfl
    have z3 := HD w' hw' 3 _ rfl
    have z4 := HD w' hw' 4 _ rfl
    have z5 := HD w' hw' 5 _ rfl
    have z6 := HD w' hw' 6 _ rfl
    have z7 := HD w' hw' 7 _ rfl
    go_simp
  go_frame
  refine Float.step (v := (decV x0 x1 x2 x3 x4 x5 x6 x7)) (by rfl) (fun w' hw' => Float.call_at ?_ ((dec_isa x0 x1 x2 x3 x4 x5 x6 x7 w' he he' hf hf' hg hg' hh hh').mono fun e w'' h2 => ⟨h2.1, hw'.trans (h2.2.mono hw'.size)⟩)) ?_
  · go_simp
  go_frame
  refine Float.step (v := (eight x0 x1 x2 x3 x4 x5 x6 x7)) (by rfl) (fun w' hw' => Float.call_at ?_ ((enc_isa x0 x1 x2 x3 _ w').mono fun e w'' h2 => ⟨h2.1.trans (by rw [enc_dec x0 x1 x2 x3 x4 x5 x6 x7 he he' hf hf' hg hg' hh hh']), hw'.trans (h2.2.mono hw'.size)⟩)) ?_
  · go_simp
  go_frame
  refine Float.step (v := (eight x0 x1 x2 x3 x4 x5 x6 x7)) (by rfl) (fun w' hw' => Float.value_at ?_) ?_
  · have z0 := HD w' hw' 0 _ rfl
    have z1 := HD w' hw' 1 _ rfl
    have z2 := HD w' hw' 2 _ rfl
    have z3 := HD w' hw' 3 _ rfl
    have z4 := HD w' hw' 4 _ rfl
    have z5 := HD w' hw' 5 _ rfl
    have z6 := HD w' hw' 6 _ rfl
    have z7 := HD w' hw' 7 _ rfl
    go_simp
  go_frame
  refine Float.step (v := .bool true) (by rfl) (fun w' hw' => Float.value_at ?_) ?_
  · have q := eq8 x0 x1 x2 x3 x4 x5 x6 x7 w'
    go_simp
  go_frame
  refine Float.step (v := .bool true) (by rfl) (fun w' hw' => Float.value_at ?_) ?_
  · go_simp
  go_frame
  refine Float.step (v := .bool true) (by rfl) (fun w' hw' => Float.value_at ?_) ?_
  · go_simp
  go_frame
  refine wpQuiet_nil ?_
  intro w4 hB4
  go_wp2
  go_ret
  exact ⟨rfl, HB.trans (hB4.mono HB.size)⟩
end Go.Proofs.YtcbhkeinmdobhaaDoor
