import Derived.Test.YtcbhkeinmdobhaaDoorSh1
import Derived.Test.YtcbhkeinmdobhaaDoorSh3
import Derived.Test.YtcbhkeinmdobhaaDoorSh4
import Derived.Test.YtcbhkeinmdobhaaDoorRs1
import Derived.Test.YtcbhkeinmdobhaaDoorRs2
import Derived.Test.YtcbhkeinmdobhaaDoorRs3
import Derived.Test.YtcbhkeinmdobhaaDoorOpn
namespace Go.Proofs.YtcbhkeinmdobhaaDoor
open Go.ChangeShapes Go.WideShapes Go.ChangeAt Go.RowKit
set_option linter.unusedVariables false
set_option linter.unusedSimpArgs false

/-- what stands for a letter -/
def opndB (a b c n : Int) (ch : UInt8) : ByteArray := if ch = 97 then ⟨#[114]⟩ ++ dig a.toNat else if ch = 98 then ⟨#[114]⟩ ++ dig b.toNat else if ch = 99 then ⟨#[114]⟩ ++ dig c.toNat else dec n
/-- the line of an instruction; none of one that is not legal -/
def showS (op a b c n : Int) : ByteArray := if legalB op a b c n then ⟨(Lib.join ((nameB op.toNat :: (shapeB op.toNat).data.toList.map (opndB a b c n)).map (·.data.toList)) [32]).toArray⟩ else ⟨#[]⟩
theorem legal_regs {L : List UInt8} {a b c n : Int} (hl : legalS L a b c n = true) : a < 16 ∧ b < 16 ∧ c < 16 := by
  unfold legalS at hl
  rw [Bool.and_eq_true, Bool.and_eq_true, Bool.and_eq_true] at hl
  obtain ⟨h1, h2, h3, _⟩ := hl
  have h : ∀ (q : Bool) (r : Int), regOk q r = true → r < 16 := by
    intro q r hr
    cases q
    · simp [regOk] at hr; omega
    · simpa [regOk] using hr
  exact ⟨h _ _ h1, h _ _ h2, h _ _ h3⟩
theorem legal_known {op a b c n : Int} (hl : legalB op a b c n = true) : 1 ≤ op ∧ op ≤ 27 := by
  unfold legalB at hl
  rw [Bool.and_eq_true] at hl
  simpa using hl.1
set_option maxRecDepth 20000 in
theorem show_no (op a b c n : Int) (w : World) (T : Tabs w) (h0 : 0 ≤ op) (h2 : op < 256) (ha : 0 ≤ a) (hb : 0 ≤ b) (hc : 0 ≤ c) (hl : legalB op a b c n = false) :
    Calls Tryd.prog 21 #[ins op a b c n] w fun e w' => e = .returned (.tuple #[.string ⟨#[]⟩, .bool false]) ∧ Below w.heap.size w w' := by
  have HL := Lib.hid hl
  clear hl
  have hB0 : Below w.heap.size w (w.alloc (.cells #[.int .u8 op, .int .u8 a, .int .u8 b, .int .u8 c, .int .i32 n] 26)) := (Below.refl _ _).alloc (Nat.le_refl _) _
  have T2 := T.on hB0
  go_enter Tryd.func21, Tryd.ntmps21
  go_wp2_with (go_at_call 25; refine (legal op a b c n _ h0 h2 ha hb hc T2.tab T2.pos).mono ?_; rintro e w' ⟨rfl, hb1⟩; rw [HL.out])
  go_ret2
  exact ⟨rfl, hB0.trans (hb1.mono hB0.size)⟩
set_option maxRecDepth 20000 in
theorem rshow_no (op a b c n : Int) (w : World) (h0 : 0 ≤ op) (h2 : op < 256) (hl : legalB op a b c n = false) :
    Calls Tryd.prog 22 #[ins op a b c n] w fun e w' => e = .returned (.tuple #[.string ⟨#[]⟩, .bool false]) ∧ Below w.heap.size w w' := by
  have HL := Lib.hid hl
  clear hl
  have hB0 : Below w.heap.size w (w.alloc (.cells #[.int .u8 op, .int .u8 a, .int .u8 b, .int .u8 c, .int .i32 n] 26)) := (Below.refl _ _).alloc (Nat.le_refl _) _
  go_enter Tryd.func22, Tryd.ntmps22
  go_wp2_with (go_at_call 26; refine (rlegal op a b c n _ h0 h2).mono ?_; rintro e w' ⟨rfl, hb1⟩; rw [HL.out])
  go_ret2
  exact ⟨rfl, hB0.trans (hb1.mono hB0.size)⟩
theorem showS_at (i a b c : Nat) (n : Int) (L : List UInt8) (W : List ByteArray) (hs : shapeB i = ⟨L.toArray⟩) (hl : legalB i a b c n = true) (hW : L.map (opndB a b c n) = W) :
    showS i a b c n = ⟨(Lib.join ((nameB i :: W).map (·.data.toList)) [32]).toArray⟩ := by
  unfold showS
  rw [if_pos hl, Int.toNat_natCast, hs, ← hW]
theorem show_any (op a b c n : Int) (w : World) (T : Tabs w) (h0 : 0 ≤ op) (h2 : op < 256) (ha : 0 ≤ a) (hb : 0 ≤ b) (hc : 0 ≤ c) (hn0 : -2147483648 ≤ n) (hn1 : n ≤ 2147483647) :
    Calls Tryd.prog 21 #[ins op a b c n] w fun e w' => e = .returned (.tuple #[.string (showS op a b c n), .bool (legalB op a b c n)]) ∧ Below w.heap.size w w' := by
  rcases hl : legalB op a b c n with _ | _
  · have e : showS op a b c n = ⟨#[]⟩ := by unfold showS; rw [hl]; rfl
    rw [e]
    exact show_no op a b c n w T h0 h2 ha hb hc hl
  · have hk := legal_known hl
    obtain ⟨i, rfl⟩ := Int.eq_ofNat_of_zero_le h0
    obtain ⟨a, rfl⟩ := Int.eq_ofNat_of_zero_le ha
    obtain ⟨b, rfl⟩ := Int.eq_ofNat_of_zero_le hb
    obtain ⟨c, rfl⟩ := Int.eq_ofNat_of_zero_le hc
    have hr : (a : Int) < 16 ∧ (b : Int) < 16 ∧ (c : Int) < 16 := by
      have hl' := hl
      unfold legalB at hl'
      rw [Bool.and_eq_true] at hl'
      exact legal_regs hl'.2
    rcases shape_cases i (by omega) (by omega) with h | h | h | h | h | h | h | h | h
    · rw [showS_at i a b c n [] [] h hl (by simp [opndB])]
      exact show_none i a b c n w (by omega) (by omega) h hl (by omega) (by omega) (by omega) hn0 hn1 T.tab T.pow T.pos
    · rw [showS_at i a b c n [97, 110] [⟨#[114]⟩ ++ dig a, dec n] h hl (by simp [opndB])]
      exact show_an i a b c n w (by omega) (by omega) h hl (by omega) (by omega) (by omega) hn0 hn1 T.tab T.pow T.pos
    · rw [showS_at i a b c n [97, 98] [⟨#[114]⟩ ++ dig a, ⟨#[114]⟩ ++ dig b] h hl (by simp [opndB])]
      exact show_ab i a b c n w (by omega) (by omega) h hl (by omega) (by omega) (by omega) hn0 hn1 T.tab T.pow T.pos
    · rw [showS_at i a b c n [97, 98, 110] [⟨#[114]⟩ ++ dig a, ⟨#[114]⟩ ++ dig b, dec n] h hl (by simp [opndB])]
      exact show_abn i a b c n w (by omega) (by omega) h hl (by omega) (by omega) (by omega) hn0 hn1 T.tab T.pow T.pos
    · rw [showS_at i a b c n [97, 98, 99] [⟨#[114]⟩ ++ dig a, ⟨#[114]⟩ ++ dig b, ⟨#[114]⟩ ++ dig c] h hl (by simp [opndB])]
      exact show_abc i a b c n w (by omega) (by omega) h hl (by omega) (by omega) (by omega) hn0 hn1 T.tab T.pow T.pos
    · rw [showS_at i a b c n [112] [dec n] h hl (by simp [opndB])]
      exact show_p i a b c n w (by omega) (by omega) h hl (by omega) (by omega) (by omega) hn0 hn1 T.tab T.pow T.pos
    · rw [showS_at i a b c n [97, 112] [⟨#[114]⟩ ++ dig a, dec n] h hl (by simp [opndB])]
      exact show_ap i a b c n w (by omega) (by omega) h hl (by omega) (by omega) (by omega) hn0 hn1 T.tab T.pow T.pos
    · rw [showS_at i a b c n [97] [⟨#[114]⟩ ++ dig a] h hl (by simp [opndB])]
      exact show_a i a b c n w (by omega) (by omega) h hl (by omega) (by omega) (by omega) hn0 hn1 T.tab T.pow T.pos
    · rw [showS_at i a b c n [110] [dec n] h hl (by simp [opndB])]
      exact show_n i a b c n w (by omega) (by omega) h hl (by omega) (by omega) (by omega) hn0 hn1 T.tab T.pow T.pos
theorem rshow_any (op a b c n : Int) (w : World) (h0 : 0 ≤ op) (h2 : op < 256) (ha : 0 ≤ a) (hb : 0 ≤ b) (hc : 0 ≤ c) (hn0 : -2147483648 ≤ n) (hn1 : n ≤ 2147483647) :
    Calls Tryd.prog 22 #[ins op a b c n] w fun e w' => e = .returned (.tuple #[.string (showS op a b c n), .bool (legalB op a b c n)]) ∧ Below w.heap.size w w' := by
  rcases hl : legalB op a b c n with _ | _
  · have e : showS op a b c n = ⟨#[]⟩ := by unfold showS; rw [hl]; rfl
    rw [e]
    exact rshow_no op a b c n w h0 h2 hl
  · have hk := legal_known hl
    obtain ⟨i, rfl⟩ := Int.eq_ofNat_of_zero_le h0
    obtain ⟨a, rfl⟩ := Int.eq_ofNat_of_zero_le ha
    obtain ⟨b, rfl⟩ := Int.eq_ofNat_of_zero_le hb
    obtain ⟨c, rfl⟩ := Int.eq_ofNat_of_zero_le hc
    have hr : (a : Int) < 16 ∧ (b : Int) < 16 ∧ (c : Int) < 16 := by
      have hl' := hl
      unfold legalB at hl'
      rw [Bool.and_eq_true] at hl'
      exact legal_regs hl'.2
    rcases shape_cases i (by omega) (by omega) with h | h | h | h | h | h | h | h | h
    · rw [showS_at i a b c n [] [] h hl (by simp [opndB])]
      exact rshow_none i a b c n w (by omega) (by omega) h hl (by omega) (by omega) (by omega) hn0 hn1
    · rw [showS_at i a b c n [97, 110] [⟨#[114]⟩ ++ dig a, dec n] h hl (by simp [opndB])]
      exact rshow_an i a b c n w (by omega) (by omega) h hl (by omega) (by omega) (by omega) hn0 hn1
    · rw [showS_at i a b c n [97, 98] [⟨#[114]⟩ ++ dig a, ⟨#[114]⟩ ++ dig b] h hl (by simp [opndB])]
      exact rshow_ab i a b c n w (by omega) (by omega) h hl (by omega) (by omega) (by omega) hn0 hn1
    · rw [showS_at i a b c n [97, 98, 110] [⟨#[114]⟩ ++ dig a, ⟨#[114]⟩ ++ dig b, dec n] h hl (by simp [opndB])]
      exact rshow_abn i a b c n w (by omega) (by omega) h hl (by omega) (by omega) (by omega) hn0 hn1
    · rw [showS_at i a b c n [97, 98, 99] [⟨#[114]⟩ ++ dig a, ⟨#[114]⟩ ++ dig b, ⟨#[114]⟩ ++ dig c] h hl (by simp [opndB])]
      exact rshow_abc i a b c n w (by omega) (by omega) h hl (by omega) (by omega) (by omega) hn0 hn1
    · rw [showS_at i a b c n [112] [dec n] h hl (by simp [opndB])]
      exact rshow_p i a b c n w (by omega) (by omega) h hl (by omega) (by omega) (by omega) hn0 hn1
    · rw [showS_at i a b c n [97, 112] [⟨#[114]⟩ ++ dig a, dec n] h hl (by simp [opndB])]
      exact rshow_ap i a b c n w (by omega) (by omega) h hl (by omega) (by omega) (by omega) hn0 hn1
    · rw [showS_at i a b c n [97] [⟨#[114]⟩ ++ dig a] h hl (by simp [opndB])]
      exact rshow_a i a b c n w (by omega) (by omega) h hl (by omega) (by omega) (by omega) hn0 hn1
    · rw [showS_at i a b c n [110] [dec n] h hl (by simp [opndB])]
      exact rshow_n i a b c n w (by omega) (by omega) h hl (by omega) (by omega) (by omega) hn0 hn1
set_option maxRecDepth 100000 in
set_option maxHeartbeats 4000000 in
theorem isaShows_walk (op a b c n : Int) (w : World) (T : Tabs w) (h0 : 0 ≤ op) (h2 : op < 256) (ha : 0 ≤ a) (hb : 0 ≤ b) (hc : 0 ≤ c) (hn0 : -2147483648 ≤ n) (hn1 : n ≤ 2147483647) :
    Calls Tryd.prog 6 #[ins op a b c n] w fun e w' => e = .returned (.bool true) ∧ Below w.heap.size w w' := by
  have hB0 : Below w.heap.size w (w.alloc (.cells #[.int .u8 op, .int .u8 a, .int .u8 b, .int .u8 c, .int .i32 n] 26)) := (Below.refl _ _).alloc (Nat.le_refl _) _
  go_enter Tryd.func6, Tryd.ntmps6
  go_wp2_with (first | (go_at_call 21; refine (show_any op a b c n _ (T.on hB0) h0 h2 ha hb hc hn0 hn1).mono ?_; rintro e w1 ⟨rfl, hb1⟩; (have hB1 : Below w.heap.size w w1 := hB0.trans (hb1.mono hB0.size)); (obtain ⟨bc, bf⟩ := bcell hb1); (have hx0 := bc w.heap.size 0 (by simp)); (simp [World.cell?_alloc_new] at hx0); (have hx1 := bc w.heap.size 1 (by simp)); (simp [World.cell?_alloc_new] at hx1); (have hx2 := bc w.heap.size 2 (by simp)); (simp [World.cell?_alloc_new] at hx2); (have hx3 := bc w.heap.size 3 (by simp)); (simp [World.cell?_alloc_new] at hx3); (have hx4 := bc w.heap.size 4 (by simp)); (simp [World.cell?_alloc_new] at hx4); (have hz1 := hb1.size); (try simp at hz1); (have hz2 : w.heap.size < w1.heap.size := (by omega)); (clear bc bf hz1)) | (go_at_call 22; refine (rshow_any op a b c n _ h0 h2 ha hb hc hn0 hn1).mono ?_; rintro e w2 ⟨rfl, hb2⟩; (have hB2 : Below w.heap.size w w2 := hB1.trans (hb2.mono hB1.size)); (obtain ⟨bc, bf⟩ := bcell hb2); (have hx0 := (bc w.heap.size 0 hz2).trans hx0); (have hx1 := (bc w.heap.size 1 hz2).trans hx1); (have hx2 := (bc w.heap.size 2 hz2).trans hx2); (have hx3 := (bc w.heap.size 3 hz2).trans hx3); (have hx4 := (bc w.heap.size 4 hz2).trans hx4); (have hz1 := hb2.size); (try simp at hz1); (have hz2 : w.heap.size < w2.heap.size := (by omega)); (clear bc bf hz1)) | (go_at_call 23; refine (jumps op a b c n _ h0 h2 ha hb hc hn0 hn1 (T.on hB2).tab (T.on hB2).pos).mono ?_; rintro e w3 ⟨rfl, hb3⟩; (have hB3 : Below w.heap.size w w3 := hB2.trans (hb3.mono hB2.size)); (obtain ⟨bc, bf⟩ := bcell hb3); (have hx0 := (bc w.heap.size 0 hz2).trans hx0); (have hx1 := (bc w.heap.size 1 hz2).trans hx1); (have hx2 := (bc w.heap.size 2 hz2).trans hx2); (have hx3 := (bc w.heap.size 3 hz2).trans hx3); (have hx4 := (bc w.heap.size 4 hz2).trans hx4); (have hz1 := hb3.size); (try simp at hz1); (have hz2 : w.heap.size < w3.heap.size := (by omega)); (clear bc bf hz1)) | (go_at_call 24; refine (rjumps op a b c n _ h0 h2 hn0 hn1).mono ?_; rintro e w4 ⟨rfl, hb4⟩; (have hB4 : Below w.heap.size w w4 := hB3.trans (hb4.mono hB3.size)); (obtain ⟨bc, bf⟩ := bcell hb4); (have hx0 := (bc w.heap.size 0 hz2).trans hx0); (have hx1 := (bc w.heap.size 1 hz2).trans hx1); (have hx2 := (bc w.heap.size 2 hz2).trans hx2); (have hx3 := (bc w.heap.size 3 hz2).trans hx3); (have hx4 := (bc w.heap.size 4 hz2).trans hx4); (have hz1 := hb4.size); (try simp at hz1); (have hz2 : w.heap.size < w4.heap.size := (by omega)); (clear bc bf hz1)))
  refine wp_region_x (w0 := w) (g := w.heap.size) (x := #[.int .u8 op, .int .u8 a, .int .u8 b, .int .u8 c, .int .i32 n]) (by kernel_rfl) (by kernel_rfl) ⟨Below.refl _ _, hB4, hz2, hx0, hx1, hx2, hx3, hx4⟩ ?_
  refine Float.step (v := (ins op a b c n)) (by rfl) (fun w' hw' => Float.value_at ?_) ?_
  · obtain ⟨_, _, _, y0, y1, y2, y3, y4⟩ := hw'
    go_simp
  go_frame
  refine Float.step (v := .bool (legalB op a b c n)) (by rfl) (fun w' hw' => Float.call_at ?_ ((legal op a b c n w' h0 h2 ha hb hc (T.on hw'.2.1).tab (T.on hw'.2.1).pos).mono fun e w'' h2 => ⟨h2.1, hw'.call h2.2⟩)) ?_
  · go_simp
  go_frame
  refine Float.step (v := (ins op a b c n)) (by rfl) (fun w' hw' => Float.value_at ?_) ?_
  · obtain ⟨_, _, _, y0, y1, y2, y3, y4⟩ := hw'
    go_simp
  go_frame
  refine Float.step (v := .bool (legalB op a b c n)) (by rfl) (fun w' hw' => Float.call_at ?_ ((rlegal op a b c n w' h0 h2).mono fun e w'' h2 => ⟨h2.1, hw'.call h2.2⟩)) ?_
  · go_simp
  go_frame
  refine Float.step (v := .bool true) (by rfl) (fun w' hw' => Float.value_at ?_) ?_
  · go_simp
  go_frame
  refine Float.step (v := .bool true) (by rfl) (fun w' hw' => Float.value_at ?_) ?_
  · go_simp
  go_frame
  refine Float.step (v := .string (showS op a b c n)) (by rfl) (fun w' hw' => Float.value_at ?_) ?_
  · go_simp
  go_frame
  refine Float.step (v := .string (showS op a b c n)) (by rfl) (fun w' hw' => Float.value_at ?_) ?_
  · go_simp
  go_frame
  refine Float.step (v := .bool true) (by rfl) (fun w' hw' => Float.value_at ?_) ?_
  · go_simp
  go_frame
  refine Float.step (v := .bool true) (by rfl) (fun w' hw' => Float.value_at ?_) ?_
  · go_simp
  go_frame
  refine Float.step (v := .bool true) (by rfl) (fun w' hw' => Float.value_at ?_) ?_
  · go_simp
  go_frame
  refine Float.step (v := .bool (legalB op a b c n)) (by rfl) (fun w' hw' => Float.value_at ?_) ?_
  · go_simp
  go_frame
  refine Float.step (v := .bool (legalB op a b c n)) (by rfl) (fun w' hw' => Float.value_at ?_) ?_
  · go_simp
  go_frame
  refine Float.step (v := .bool true) (by rfl) (fun w' hw' => Float.value_at ?_) ?_
  · go_simp
  go_frame
  refine Float.step (v := .bool true) (by rfl) (fun w' hw' => Float.value_at ?_) ?_
  · go_simp
  go_frame
  refine Float.step (v := .bool true) (by rfl) (fun w' hw' => Float.value_at ?_) ?_
  · go_simp
  go_frame
  refine Float.step (v := .int .i64 (jumpV op a b c n)) (by rfl) (fun w' hw' => Float.value_at ?_) ?_
  · go_simp
  go_frame
  refine Float.step (v := .int .i64 (jumpV op a b c n)) (by rfl) (fun w' hw' => Float.value_at ?_) ?_
  · go_simp
  go_frame
  refine Float.step (v := .bool true) (by rfl) (fun w' hw' => Float.value_at ?_) ?_
  · go_simp
  go_frame
  refine Float.step (v := .bool true) (by rfl) (fun w' hw' => Float.value_at ?_) ?_
  · go_simp
  go_frame
  refine Float.step (v := .bool true) (by rfl) (fun w' hw' => Float.value_at ?_) ?_
  · go_simp
  go_frame
  refine Float.step (v := .bool (jumpB op a b c n)) (by rfl) (fun w' hw' => Float.value_at ?_) ?_
  · go_simp
  go_frame
  refine Float.step (v := .bool (jumpB op a b c n)) (by rfl) (fun w' hw' => Float.value_at ?_) ?_
  · go_simp
  go_frame
  refine Float.step (v := .bool true) (by rfl) (fun w' hw' => Float.value_at ?_) ?_
  · go_simp
  go_frame
  refine Float.step (v := .bool true) (by rfl) (fun w' hw' => Float.value_at ?_) ?_
  · go_simp
  go_frame
  refine Float.step (v := .bool true) (by rfl) (fun w' hw' => Float.value_at ?_) ?_
  · go_simp
  go_frame
  refine wpQuiet_nil ?_
  intro w5 hC
  go_wp2
  go_ret
  exact ⟨rfl, hC.2.1⟩
set_option maxRecDepth 100000 in
theorem isaShows_any {H : Type} (enc : TypeId × Value → H) (W : World) {base : Nat} {v0 : Value} {d0 : DataW H} {p0 : List MemPlace} (o0 : Value.okWide Tryd.prog W .any base 26 v0) (h0 : DataW.Trod enc Tryd.prog W 0 (fun _ => true) true 26 v0 d0 p0)
    (hsz : ∀ x ∈ DataW.weightsEach Tryd.prog [26] [d0], x ≤ reachBytes) (hL : laidMetH Tryd.prog Rows.isaShowsRow.laid W) :
    Calls Tryd.prog 6 #[v0] W fun e w' => e = .returned (.bool true) ∧ Below W.heap.size W w' := by
  obtain ⟨o, a, b, c, n, rfl, ho, ha, hb, hc, hn0, hn1⟩ := open_instr o0 h0
  exact isaShows_walk o a b c n W (tabs_laid (by kernel_rfl) hL (by simp [Rows.isaShowsRow]) (by simp [Rows.isaShowsRow])) ho.1 ho.2 ha.1 hb.1 hc.1 hn0 hn1
end Go.Proofs.YtcbhkeinmdobhaaDoor
