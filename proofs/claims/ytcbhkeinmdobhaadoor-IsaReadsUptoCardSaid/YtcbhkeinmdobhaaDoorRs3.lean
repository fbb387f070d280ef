import Derived.Test.YtcbhkeinmdobhaaDoorRs0
namespace Go.Proofs.YtcbhkeinmdobhaaDoor
open Go.ChangeShapes Go.WideShapes Go.ChangeAt Go.RowKit
set_option linter.unusedVariables false
set_option linter.unusedSimpArgs false

set_option maxHeartbeats 8000000 in
set_option maxRecDepth 20000 in
theorem rshow_abn (i : Nat) (a b c : Nat) (n : Int) (w : World) (h1 : 1 ≤ i) (h2 : i ≤ 27) (hs : shapeB i = ⟨#[97, 98, 110]⟩) (hl : legalB i a b c n = true) (ha : a < 16) (hb : b < 16) (hc : c < 16) (hn0 : -2147483648 ≤ n) (hn1 : n ≤ 2147483647) :
    Calls Tryd.prog 22 #[ins i a b c n] w fun e w' => e = .returned (.tuple #[.string ⟨(Lib.join ((nameB i :: [⟨#[114]⟩ ++ dig a, ⟨#[114]⟩ ++ dig b, dec n] : List ByteArray).map (·.data.toList)) [32]).toArray⟩, .bool true]) ∧ Below w.heap.size w w' := by
  have hi1 : (0 : Int) ≤ (i : Int) := by omega
  have hi3 : (i : Int) < ((28 : Nat) : Int) := by omega
  have hi2 : (i : Int) < 28 := by omega
  have hw1 : IntKind.i64.wrap (i : Int) = (i : Int) := IntWalk.i64_in _ (by omega)
  have hnmS := nameB_size i h1 h2
  have hda := dig_size10 a (by omega)
  have hdb := dig_size10 b (by omega)
  have hdc := dig_size10 c (by omega)
  have hdn := dec_size n hn0 hn1
  have hres : (((((((nameB i ++ ⟨#[32]⟩) ++ (⟨#[114]⟩ ++ dig a)) ++ ⟨#[32]⟩) ++ (⟨#[114]⟩ ++ dig b)) ++ ⟨#[32]⟩) ++ (dec n)) : ByteArray) = ⟨(Lib.join ((nameB i :: [⟨#[114]⟩ ++ dig a, ⟨#[114]⟩ ++ dig b, dec n] : List ByteArray).map (·.data.toList)) [32]).toArray⟩ := by
    apply ByteArray.ext
    simp [Lib.join_cons, Lib.joinTail, Lib.join_one, ByteArray.data_append, nameB]
  have HR := Lib.hid hres
  have HS := Lib.hid hs
  have HL := Lib.hid hl
  clear hs hl hres
  have E0 : ((⟨#[97, 98, 110]⟩ : ByteArray)[0]'(by decide)).toNat = 97 := rfl
  have E1 : ((⟨#[97, 98, 110]⟩ : ByteArray)[1]'(by decide)).toNat = 98 := rfl
  have E2 : ((⟨#[97, 98, 110]⟩ : ByteArray)[2]'(by decide)).toNat = 110 := rfl
  go_enter Tryd.func22, Tryd.ntmps22
  go_wp2_with (go_at_call 26; refine (rlegal i a b c n _ (by omega) (by omega)).mono ?_; rintro e w' ⟨rfl, hb1⟩; rw [HL.out]; (obtain ⟨bc, bf⟩ := bcell hb1); (have hx0 := bc w.heap.size 0 (by simp)); (have hx1 := bc w.heap.size 1 (by simp)); (have hx2 := bc w.heap.size 2 (by simp)); (have hx3 := bc w.heap.size 3 (by simp)); (have hx4 := bc w.heap.size 4 (by simp)); (simp [World.cell?_alloc_new] at hx0 hx1 hx2 hx3 hx4); (have hz1 := hb1.size); (simp at hz1); (have hz2 : w.heap.size < w'.heap.size := (by omega)); (have hcn := new_cell w' nameCells 9 i _ (nameCells_at i (by omega))); (have hB0 : Below w.heap.size w w' := (((Below.refl _ _).alloc (Nat.le_refl _) _)).trans (hb1.mono (by simp))); (clear bc bf))
  go_region_with (go_at_call 30; refine (rnames _).mono ?_; rintro e w4 ⟨rfl, rfl⟩; rw [← nameCells])
  all_goals
    have hcs : ((w'.alloc (.cells nameCells 9)).alloc (.cells shapeCells 9)).cell? ⟨w'.heap.size + 1, i, none⟩ = some (.string (shapeB i)) := by
      have e : (w'.alloc (.cells nameCells 9)).heap.size = w'.heap.size + 1 := by simp
      rw [← e]
      exact new_cell _ shapeCells 9 i _ (shapeCells_at i (by omega))
    rw [HS.out] at hcs
    go_wp2
    go_region_with (go_at_call 31; refine (rshapes _).mono ?_; rintro e w4 ⟨rfl, rfl⟩; rw [← shapeCells])
  all_goals
    go_wp2
    refine wp_loop_rounds 4 ?_
    rw [rounds_succ]
    go_wp2
    refine wp_region_x (w0 := w) (g := w.heap.size) (x := #[.int .u8 i, .int .u8 a, .int .u8 b, .int .u8 c, .int .i32 n]) (by kernel_rfl) (by kernel_rfl) ⟨Below.refl _ _, by go_grown, by simp; omega, by go_simp, by go_simp, by go_simp, by go_simp, by go_simp⟩ ?_
    refine Float.step (v := .string (nameB i)) (by rfl) (fun w' hw' => Float.value_at ?_) ?_
    · go_simp
    go_frame
    refine Float.step (v := .string (nameB i ++ ⟨#[32]⟩)) (by rfl) (fun w' hw' => Float.value_at ?_) ?_
    · go_simp <;> omega
    go_frame
    refine Float.step (v := (ins i a b c n)) (by rfl) (fun w' hw' => Float.value_at ?_) ?_
    · obtain ⟨_, _, _, y0, y1, y2, y3, y4⟩ := hw'
      go_simp
    go_frame
    refine Float.step (v := .string ⟨#[97, 98, 110]⟩) (by rfl) (fun w' hw' => Float.value_at ?_) ?_
    · go_simp
    go_frame
    refine Float.step (v := .int .i64 0) (by rfl) (fun w' hw' => Float.value_at ?_) ?_
    · go_simp
    go_frame
    refine Float.step (v := .int .u8 97) (by rfl) (fun w' hw' => Float.value_at ?_) ?_
    · go_simp
    go_frame
    refine Float.step (v := .string (⟨#[114]⟩ ++ dig a)) (by rfl) (fun w' hw' => Float.call_at ?_ ((operand_a i a b c n w' (by omega) (by omega) (by omega) (by omega)).mono fun e w'' h2 => ⟨h2.1, hw'.call h2.2⟩)) ?_
    · go_simp
    go_frame
    refine Float.step (v := .string ((nameB i ++ ⟨#[32]⟩) ++ (⟨#[114]⟩ ++ dig a))) (by rfl) (fun w' hw' => Float.value_at ?_) ?_
    · go_simp <;> omega
    go_frame
    refine Float.step (v := .string ((nameB i ++ ⟨#[32]⟩) ++ (⟨#[114]⟩ ++ dig a))) (by rfl) (fun w' hw' => Float.value_at ?_) ?_
    · go_simp
    go_frame
    refine wpQuiet_nil ?_
    intro W0 hC
    obtain ⟨_, hB, hg, y0, y1, y2, y3, y4⟩ := id hC
    go_wp2
    rw [rounds_succ]
    go_wp2
    refine wp_region_x (w0 := w) (g := w.heap.size) (x := #[.int .u8 i, .int .u8 a, .int .u8 b, .int .u8 c, .int .i32 n]) (by kernel_rfl) (by kernel_rfl) hC.again ?_
    refine Float.step (v := .string (((nameB i ++ ⟨#[32]⟩) ++ (⟨#[114]⟩ ++ dig a)))) (by rfl) (fun w' hw' => Float.value_at ?_) ?_
    · go_simp
    go_frame
    refine Float.step (v := .string (((nameB i ++ ⟨#[32]⟩) ++ (⟨#[114]⟩ ++ dig a)) ++ ⟨#[32]⟩)) (by rfl) (fun w' hw' => Float.value_at ?_) ?_
    · go_simp <;> omega
    go_frame
    refine Float.step (v := (ins i a b c n)) (by rfl) (fun w' hw' => Float.value_at ?_) ?_
    · obtain ⟨_, _, _, y0, y1, y2, y3, y4⟩ := hw'
      go_simp
    go_frame
    refine Float.step (v := .string ⟨#[97, 98, 110]⟩) (by rfl) (fun w' hw' => Float.value_at ?_) ?_
    · go_simp
    go_frame
    refine Float.step (v := .int .i64 1) (by rfl) (fun w' hw' => Float.value_at ?_) ?_
    · go_simp
    go_frame
    refine Float.step (v := .int .u8 98) (by rfl) (fun w' hw' => Float.value_at ?_) ?_
    · go_simp
    go_frame
    refine Float.step (v := .string (⟨#[114]⟩ ++ dig b)) (by rfl) (fun w' hw' => Float.call_at ?_ ((operand_b i a b c n w' (by omega) (by omega) (by omega) (by omega)).mono fun e w'' h2 => ⟨h2.1, hw'.call h2.2⟩)) ?_
    · go_simp
    go_frame
    refine Float.step (v := .string ((((nameB i ++ ⟨#[32]⟩) ++ (⟨#[114]⟩ ++ dig a)) ++ ⟨#[32]⟩) ++ (⟨#[114]⟩ ++ dig b))) (by rfl) (fun w' hw' => Float.value_at ?_) ?_
    · go_simp <;> omega
    go_frame
    refine Float.step (v := .string ((((nameB i ++ ⟨#[32]⟩) ++ (⟨#[114]⟩ ++ dig a)) ++ ⟨#[32]⟩) ++ (⟨#[114]⟩ ++ dig b))) (by rfl) (fun w' hw' => Float.value_at ?_) ?_
    · go_simp
    go_frame
    refine wpQuiet_nil ?_
    intro W1 hC
    obtain ⟨_, hB, hg, y0, y1, y2, y3, y4⟩ := id hC
    go_wp2
    rw [rounds_succ]
    go_wp2
    refine wp_region_x (w0 := w) (g := w.heap.size) (x := #[.int .u8 i, .int .u8 a, .int .u8 b, .int .u8 c, .int .i32 n]) (by kernel_rfl) (by kernel_rfl) hC.again ?_
    refine Float.step (v := .string (((((nameB i ++ ⟨#[32]⟩) ++ (⟨#[114]⟩ ++ dig a)) ++ ⟨#[32]⟩) ++ (⟨#[114]⟩ ++ dig b)))) (by rfl) (fun w' hw' => Float.value_at ?_) ?_
    · go_simp
    go_frame
    refine Float.step (v := .string (((((nameB i ++ ⟨#[32]⟩) ++ (⟨#[114]⟩ ++ dig a)) ++ ⟨#[32]⟩) ++ (⟨#[114]⟩ ++ dig b)) ++ ⟨#[32]⟩)) (by rfl) (fun w' hw' => Float.value_at ?_) ?_
    · go_simp <;> omega
    go_frame
    refine Float.step (v := (ins i a b c n)) (by rfl) (fun w' hw' => Float.value_at ?_) ?_
    · obtain ⟨_, _, _, y0, y1, y2, y3, y4⟩ := hw'
      go_simp
    go_frame
    refine Float.step (v := .string ⟨#[97, 98, 110]⟩) (by rfl) (fun w' hw' => Float.value_at ?_) ?_
    · go_simp
    go_frame
    refine Float.step (v := .int .i64 2) (by rfl) (fun w' hw' => Float.value_at ?_) ?_
    · go_simp
    go_frame
    refine Float.step (v := .int .u8 110) (by rfl) (fun w' hw' => Float.value_at ?_) ?_
    · go_simp
    go_frame
    refine Float.step (v := .string (dec n)) (by rfl) (fun w' hw' => Float.call_at ?_ ((operand_110 i a b c n w' hn0 hn1).mono fun e w'' h2 => ⟨h2.1, hw'.call h2.2⟩)) ?_
    · go_simp
    go_frame
    refine Float.step (v := .string ((((((nameB i ++ ⟨#[32]⟩) ++ (⟨#[114]⟩ ++ dig a)) ++ ⟨#[32]⟩) ++ (⟨#[114]⟩ ++ dig b)) ++ ⟨#[32]⟩) ++ (dec n))) (by rfl) (fun w' hw' => Float.value_at ?_) ?_
    · go_simp <;> omega
    go_frame
    refine Float.step (v := .string ((((((nameB i ++ ⟨#[32]⟩) ++ (⟨#[114]⟩ ++ dig a)) ++ ⟨#[32]⟩) ++ (⟨#[114]⟩ ++ dig b)) ++ ⟨#[32]⟩) ++ (dec n))) (by rfl) (fun w' hw' => Float.value_at ?_) ?_
    · go_simp
    go_frame
    refine wpQuiet_nil ?_
    intro W2 hC
    obtain ⟨_, hB, hg, y0, y1, y2, y3, y4⟩ := id hC
    go_wp2
    rw [rounds_succ]
    go_wp2
    go_ret2
    exact ⟨by first | rfl | (exact congrArg (fun z => Ending.returned (Value.tuple #[Value.string z, Value.bool true])) HR.out), by first | exact hB | go_grown⟩
set_option maxHeartbeats 8000000 in
set_option maxRecDepth 20000 in
theorem rshow_abc (i : Nat) (a b c : Nat) (n : Int) (w : World) (h1 : 1 ≤ i) (h2 : i ≤ 27) (hs : shapeB i = ⟨#[97, 98, 99]⟩) (hl : legalB i a b c n = true) (ha : a < 16) (hb : b < 16) (hc : c < 16) (hn0 : -2147483648 ≤ n) (hn1 : n ≤ 2147483647) :
    Calls Tryd.prog 22 #[ins i a b c n] w fun e w' => e = .returned (.tuple #[.string ⟨(Lib.join ((nameB i :: [⟨#[114]⟩ ++ dig a, ⟨#[114]⟩ ++ dig b, ⟨#[114]⟩ ++ dig c] : List ByteArray).map (·.data.toList)) [32]).toArray⟩, .bool true]) ∧ Below w.heap.size w w' := by
  have hi1 : (0 : Int) ≤ (i : Int) := by omega
  have hi3 : (i : Int) < ((28 : Nat) : Int) := by omega
  have hi2 : (i : Int) < 28 := by omega
  have hw1 : IntKind.i64.wrap (i : Int) = (i : Int) := IntWalk.i64_in _ (by omega)
  have hnmS := nameB_size i h1 h2
  have hda := dig_size10 a (by omega)
  have hdb := dig_size10 b (by omega)
  have hdc := dig_size10 c (by omega)
  have hdn := dec_size n hn0 hn1
  have hres : (((((((nameB i ++ ⟨#[32]⟩) ++ (⟨#[114]⟩ ++ dig a)) ++ ⟨#[32]⟩) ++ (⟨#[114]⟩ ++ dig b)) ++ ⟨#[32]⟩) ++ (⟨#[114]⟩ ++ dig c)) : ByteArray) = ⟨(Lib.join ((nameB i :: [⟨#[114]⟩ ++ dig a, ⟨#[114]⟩ ++ dig b, ⟨#[114]⟩ ++ dig c] : List ByteArray).map (·.data.toList)) [32]).toArray⟩ := by
    apply ByteArray.ext
    simp [Lib.join_cons, Lib.joinTail, Lib.join_one, ByteArray.data_append, nameB]
  have HR := Lib.hid hres
  have HS := Lib.hid hs
  have HL := Lib.hid hl
  clear hs hl hres
  have E0 : ((⟨#[97, 98, 99]⟩ : ByteArray)[0]'(by decide)).toNat = 97 := rfl
  have E1 : ((⟨#[97, 98, 99]⟩ : ByteArray)[1]'(by decide)).toNat = 98 := rfl
  have E2 : ((⟨#[97, 98, 99]⟩ : ByteArray)[2]'(by decide)).toNat = 99 := rfl
  go_enter Tryd.func22, Tryd.ntmps22
  go_wp2_with (go_at_call 26; refine (rlegal i a b c n _ (by omega) (by omega)).mono ?_; rintro e w' ⟨rfl, hb1⟩; rw [HL.out]; (obtain ⟨bc, bf⟩ := bcell hb1); (have hx0 := bc w.heap.size 0 (by simp)); (have hx1 := bc w.heap.size 1 (by simp)); (have hx2 := bc w.heap.size 2 (by simp)); (have hx3 := bc w.heap.size 3 (by simp)); (have hx4 := bc w.heap.size 4 (by simp)); (simp [World.cell?_alloc_new] at hx0 hx1 hx2 hx3 hx4); (have hz1 := hb1.size); (simp at hz1); (have hz2 : w.heap.size < w'.heap.size := (by omega)); (have hcn := new_cell w' nameCells 9 i _ (nameCells_at i (by omega))); (have hB0 : Below w.heap.size w w' := (((Below.refl _ _).alloc (Nat.le_refl _) _)).trans (hb1.mono (by simp))); (clear bc bf))
  go_region_with (go_at_call 30; refine (rnames _).mono ?_; rintro e w4 ⟨rfl, rfl⟩; rw [← nameCells])
  all_goals
    have hcs : ((w'.alloc (.cells nameCells 9)).alloc (.cells shapeCells 9)).cell? ⟨w'.heap.size + 1, i, none⟩ = some (.string (shapeB i)) := by
      have e : (w'.alloc (.cells nameCells 9)).heap.size = w'.heap.size + 1 := by simp
      rw [← e]
      exact new_cell _ shapeCells 9 i _ (shapeCells_at i (by omega))
    rw [HS.out] at hcs
    go_wp2
    go_region_with (go_at_call 31; refine (rshapes _).mono ?_; rintro e w4 ⟨rfl, rfl⟩; rw [← shapeCells])
  all_goals
    go_wp2
    refine wp_loop_rounds 4 ?_
    rw [rounds_succ]
    go_wp2
    refine wp_region_x (w0 := w) (g := w.heap.size) (x := #[.int .u8 i, .int .u8 a, .int .u8 b, .int .u8 c, .int .i32 n]) (by kernel_rfl) (by kernel_rfl) ⟨Below.refl _ _, by go_grown, by simp; omega, by go_simp, by go_simp, by go_simp, by go_simp, by go_simp⟩ ?_
    refine Float.step (v := .string (nameB i)) (by rfl) (fun w' hw' => Float.value_at ?_) ?_
    · go_simp
    go_frame
    refine Float.step (v := .string (nameB i ++ ⟨#[32]⟩)) (by rfl) (fun w' hw' => Float.value_at ?_) ?_
    · go_simp <;> omega
    go_frame
    refine Float.step (v := (ins i a b c n)) (by rfl) (fun w' hw' => Float.value_at ?_) ?_
    · obtain ⟨_, _, _, y0, y1, y2, y3, y4⟩ := hw'
      go_simp
    go_frame
    refine Float.step (v := .string ⟨#[97, 98, 99]⟩) (by rfl) (fun w' hw' => Float.value_at ?_) ?_
    · go_simp
    go_frame
    refine Float.step (v := .int .i64 0) (by rfl) (fun w' hw' => Float.value_at ?_) ?_
    · go_simp
    go_frame
    refine Float.step (v := .int .u8 97) (by rfl) (fun w' hw' => Float.value_at ?_) ?_
    · go_simp
    go_frame
    refine Float.step (v := .string (⟨#[114]⟩ ++ dig a)) (by rfl) (fun w' hw' => Float.call_at ?_ ((operand_a i a b c n w' (by omega) (by omega) (by omega) (by omega)).mono fun e w'' h2 => ⟨h2.1, hw'.call h2.2⟩)) ?_
    · go_simp
    go_frame
    refine Float.step (v := .string ((nameB i ++ ⟨#[32]⟩) ++ (⟨#[114]⟩ ++ dig a))) (by rfl) (fun w' hw' => Float.value_at ?_) ?_
    · go_simp <;> omega
    go_frame
    refine Float.step (v := .string ((nameB i ++ ⟨#[32]⟩) ++ (⟨#[114]⟩ ++ dig a))) (by rfl) (fun w' hw' => Float.value_at ?_) ?_
    · go_simp
    go_frame
    refine wpQuiet_nil ?_
    intro W0 hC
    obtain ⟨_, hB, hg, y0, y1, y2, y3, y4⟩ := id hC
    go_wp2
    rw [rounds_succ]
    go_wp2
    refine wp_region_x (w0 := w) (g := w.heap.size) (x := #[.int .u8 i, .int .u8 a, .int .u8 b, .int .u8 c, .int .i32 n]) (by kernel_rfl) (by kernel_rfl) hC.again ?_
    refine Float.step (v := .string (((nameB i ++ ⟨#[32]⟩) ++ (⟨#[114]⟩ ++ dig a)))) (by rfl) (fun w' hw' => Float.value_at ?_) ?_
    · go_simp
    go_frame
    refine Float.step (v := .string (((nameB i ++ ⟨#[32]⟩) ++ (⟨#[114]⟩ ++ dig a)) ++ ⟨#[32]⟩)) (by rfl) (fun w' hw' => Float.value_at ?_) ?_
    · go_simp <;> omega
    go_frame
    refine Float.step (v := (ins i a b c n)) (by rfl) (fun w' hw' => Float.value_at ?_) ?_
    · obtain ⟨_, _, _, y0, y1, y2, y3, y4⟩ := hw'
      go_simp
    go_frame
    refine Float.step (v := .string ⟨#[97, 98, 99]⟩) (by rfl) (fun w' hw' => Float.value_at ?_) ?_
    · go_simp
    go_frame
    refine Float.step (v := .int .i64 1) (by rfl) (fun w' hw' => Float.value_at ?_) ?_
    · go_simp
    go_frame
    refine Float.step (v := .int .u8 98) (by rfl) (fun w' hw' => Float.value_at ?_) ?_
    · go_simp
    go_frame
    refine Float.step (v := .string (⟨#[114]⟩ ++ dig b)) (by rfl) (fun w' hw' => Float.call_at ?_ ((operand_b i a b c n w' (by omega) (by omega) (by omega) (by omega)).mono fun e w'' h2 => ⟨h2.1, hw'.call h2.2⟩)) ?_
    · go_simp
    go_frame
    refine Float.step (v := .string ((((nameB i ++ ⟨#[32]⟩) ++ (⟨#[114]⟩ ++ dig a)) ++ ⟨#[32]⟩) ++ (⟨#[114]⟩ ++ dig b))) (by rfl) (fun w' hw' => Float.value_at ?_) ?_
    · go_simp <;> omega
    go_frame
    refine Float.step (v := .string ((((nameB i ++ ⟨#[32]⟩) ++ (⟨#[114]⟩ ++ dig a)) ++ ⟨#[32]⟩) ++ (⟨#[114]⟩ ++ dig b))) (by rfl) (fun w' hw' => Float.value_at ?_) ?_
    · go_simp
    go_frame
    refine wpQuiet_nil ?_
    intro W1 hC
    obtain ⟨_, hB, hg, y0, y1, y2, y3, y4⟩ := id hC
    go_wp2
    rw [rounds_succ]
    go_wp2
    refine wp_region_x (w0 := w) (g := w.heap.size) (x := #[.int .u8 i, .int .u8 a, .int .u8 b, .int .u8 c, .int .i32 n]) (by kernel_rfl) (by kernel_rfl) hC.again ?_
    refine Float.step (v := .string (((((nameB i ++ ⟨#[32]⟩) ++ (⟨#[114]⟩ ++ dig a)) ++ ⟨#[32]⟩) ++ (⟨#[114]⟩ ++ dig b)))) (by rfl) (fun w' hw' => Float.value_at ?_) ?_
    · go_simp
    go_frame
    refine Float.step (v := .string (((((nameB i ++ ⟨#[32]⟩) ++ (⟨#[114]⟩ ++ dig a)) ++ ⟨#[32]⟩) ++ (⟨#[114]⟩ ++ dig b)) ++ ⟨#[32]⟩)) (by rfl) (fun w' hw' => Float.value_at ?_) ?_
    · go_simp <;> omega
    go_frame
    refine Float.step (v := (ins i a b c n)) (by rfl) (fun w' hw' => Float.value_at ?_) ?_
    · obtain ⟨_, _, _, y0, y1, y2, y3, y4⟩ := hw'
      go_simp
    go_frame
    refine Float.step (v := .string ⟨#[97, 98, 99]⟩) (by rfl) (fun w' hw' => Float.value_at ?_) ?_
    · go_simp
    go_frame
    refine Float.step (v := .int .i64 2) (by rfl) (fun w' hw' => Float.value_at ?_) ?_
    · go_simp
    go_frame
    refine Float.step (v := .int .u8 99) (by rfl) (fun w' hw' => Float.value_at ?_) ?_
    · go_simp
    go_frame
    refine Float.step (v := .string (⟨#[114]⟩ ++ dig c)) (by rfl) (fun w' hw' => Float.call_at ?_ ((operand_c i a b c n w' (by omega) (by omega) (by omega) (by omega)).mono fun e w'' h2 => ⟨h2.1, hw'.call h2.2⟩)) ?_
    · go_simp
    go_frame
    refine Float.step (v := .string ((((((nameB i ++ ⟨#[32]⟩) ++ (⟨#[114]⟩ ++ dig a)) ++ ⟨#[32]⟩) ++ (⟨#[114]⟩ ++ dig b)) ++ ⟨#[32]⟩) ++ (⟨#[114]⟩ ++ dig c))) (by rfl) (fun w' hw' => Float.value_at ?_) ?_
    · go_simp <;> omega
    go_frame
    refine Float.step (v := .string ((((((nameB i ++ ⟨#[32]⟩) ++ (⟨#[114]⟩ ++ dig a)) ++ ⟨#[32]⟩) ++ (⟨#[114]⟩ ++ dig b)) ++ ⟨#[32]⟩) ++ (⟨#[114]⟩ ++ dig c))) (by rfl) (fun w' hw' => Float.value_at ?_) ?_
    · go_simp
    go_frame
    refine wpQuiet_nil ?_
    intro W2 hC
    obtain ⟨_, hB, hg, y0, y1, y2, y3, y4⟩ := id hC
    go_wp2
    rw [rounds_succ]
    go_wp2
    go_ret2
    exact ⟨by first | rfl | (exact congrArg (fun z => Ending.returned (Value.tuple #[Value.string z, Value.bool true])) HR.out), by first | exact hB | go_grown⟩
end Go.Proofs.YtcbhkeinmdobhaaDoor
