import Derived.Test.YtcbhkeinmdobhaaDoorTw
import Derived.ProofKit
namespace Go.Proofs.YtcbhkeinmdobhaaDoor
open Go.ChangeShapes Go.WideShapes Go.ChangeAt Go.RowKit
set_option linter.unusedVariables false
set_option linter.unusedSimpArgs false

set_option maxRecDepth 100000 in
set_option maxHeartbeats 4000000 in
theorem isaOne_yes (s : ByteArray) (i a b c : Nat) (n : Int) (w : World) (R : Rts w) (hr : Ranged i a b c n) (hl : legalB i a b c n = true) (he : (showS i a b c n).data.toList = s.data.toList)
    (hc : Calls Tryd.prog 28 #[.string s] w fun e w' => e = .returned (.tuple #[ins i a b c n, .int .i64 0]) ∧ Below w.heap.size w w') :
    Calls Tryd.prog 10 #[.string s] w fun e w' => e = .returned (.bool true) ∧ Below w.heap.size w w' := by
  have T := R.t
  have i0 : (0 : Int) ≤ i := by omega
  have i1 : (i : Int) < 256 := by have := hr.i2; omega
  have a0 : (0 : Int) ≤ a := by omega
  have b0 : (0 : Int) ≤ b := by omega
  have c0 : (0 : Int) ≤ c := by omega
  have hshow : ∀ w', Tabs w' → Calls Tryd.prog 21 #[ins i a b c n] w' fun e w'' => e = .returned (.tuple #[.string s, .bool true]) ∧ Below w'.heap.size w' w'' := fun w' T' => by
    have hs : s = showS i a b c n := (ByteArray.ext (Array.toList_inj.1 he)).symm
    rw [hs, ← hl]
    exact show_any i a b c n w' T' i0 i1 a0 b0 c0 hr.n0 hr.n1
  have hleg : ∀ w', Tabs w' → Calls Tryd.prog 25 #[ins i a b c n] w' fun e w'' => e = .returned (.bool true) ∧ Below w'.heap.size w' w'' := fun w' T' => by
    rw [← hl]; exact legal i a b c n w' i0 i1 a0 b0 c0 T'.tab T'.pos
  have HLG := Lib.hid hleg
  have HRR := Lib.hid hc
  have HSH := Lib.hid hshow
  clear hc he hshow hl hleg
  go_enter Tryd.func10, Tryd.ntmps10
  go_wp2_with (first | (go_at_call 28; refine (HRR.out).mono ?_; rintro e w1 ⟨rfl, hb1⟩; (have hB1 : Below w.heap.size w (w1.alloc (.cells #[.int .u8 i, .int .u8 a, .int .u8 b, .int .u8 c, .int .i32 n] 26)) := hb1.alloc hb1.size _)) | (go_at_call 21; refine (HSH.out _ (T.on hB1)).mono ?_; rintro e w2 ⟨rfl, hb2⟩; (have hB2 : Below w.heap.size w w2 := hB1.trans (hb2.mono hB1.size)); (obtain ⟨bc, bf⟩ := bcell hb2); (have hx0 := bc w1.heap.size 0 (by simp)); (simp [World.cell?_alloc_new] at hx0); (have hx1 := bc w1.heap.size 1 (by simp)); (simp [World.cell?_alloc_new] at hx1); (have hx2 := bc w1.heap.size 2 (by simp)); (simp [World.cell?_alloc_new] at hx2); (have hx3 := bc w1.heap.size 3 (by simp)); (simp [World.cell?_alloc_new] at hx3); (have hx4 := bc w1.heap.size 4 (by simp)); (simp [World.cell?_alloc_new] at hx4); (have hz1 := hb2.size); (try simp at hz1); (have hz2 : w1.heap.size < w2.heap.size := (by omega)); (clear bc bf hz1)) | (go_at_call 17; refine (known_t _ (T.on hB2)).mono ?_; rintro e w3 ⟨rfl, hb3⟩; (have hB3 : Below w.heap.size w w3 := hB2.trans (hb3.mono hB2.size)); (obtain ⟨bc, bf⟩ := bcell hb3); (have hx0 := (bc w1.heap.size 0 hz2).trans hx0); (have hx1 := (bc w1.heap.size 1 hz2).trans hx1); (have hx2 := (bc w1.heap.size 2 hz2).trans hx2); (have hx3 := (bc w1.heap.size 3 hz2).trans hx3); (have hx4 := (bc w1.heap.size 4 hz2).trans hx4); (have hz1 := hb3.size); (try simp at hz1); (have hz2 : w1.heap.size < w3.heap.size := (by omega)); (clear bc bf hz1)) | (go_at_call 25; refine (HLG.out _ (T.on hB3)).mono ?_; rintro e w4 ⟨rfl, hb4⟩; (have hB4 : Below w.heap.size w w4 := hB3.trans (hb4.mono hB3.size)); (obtain ⟨bc, bf⟩ := bcell hb4); (have hx0 := (bc w1.heap.size 0 hz2).trans hx0); (have hx1 := (bc w1.heap.size 1 hz2).trans hx1); (have hx2 := (bc w1.heap.size 2 hz2).trans hx2); (have hx3 := (bc w1.heap.size 3 hz2).trans hx3); (have hx4 := (bc w1.heap.size 4 hz2).trans hx4); (have hz1 := hb4.size); (try simp at hz1); (have hz2 : w1.heap.size < w4.heap.size := (by omega)); (clear bc bf hz1)))
  go_ret
  exact ⟨rfl, hB4⟩
set_option maxRecDepth 100000 in
set_option maxHeartbeats 4000000 in
theorem isaOne_no (s : ByteArray) (er : Int) (w : World) (R : Rts w) (her : er = 30 ∨ er = 41)
    (hc : Calls Tryd.prog 28 #[.string s] w fun e w' => e = .returned (.tuple #[ins 0 0 0 0 0, .int .i64 er]) ∧ Below w.heap.size w w') :
    Calls Tryd.prog 10 #[.string s] w fun e w' => e = .returned (.bool true) ∧ Below w.heap.size w w' := by
  have T := R.t
  have q := fun w' => eq5 0 0 0 0 0 w'
  have HRR := Lib.hid hc
  clear hc
  rcases her with rfl | rfl
  all_goals
    go_enter Tryd.func10, Tryd.ntmps10
    go_wp2_with (first | (go_at_call 28; refine (HRR.out).mono ?_; rintro e w1 ⟨rfl, hb1⟩; (have hB1 : Below w.heap.size w (w1.alloc (.cells #[.int .u8 0, .int .u8 0, .int .u8 0, .int .u8 0, .int .i32 0] 26)) := hb1.alloc hb1.size _)) | (go_at_call 17; refine (known_t _ (T.on hB1)).mono ?_; rintro e w2 ⟨rfl, hb2⟩; (have hB2 : Below w.heap.size w w2 := hB1.trans (hb2.mono hB1.size)); (obtain ⟨bc, bf⟩ := bcell hb2); (have hx0 := bc w1.heap.size 0 (by simp)); (simp [World.cell?_alloc_new] at hx0); (have hx1 := bc w1.heap.size 1 (by simp)); (simp [World.cell?_alloc_new] at hx1); (have hx2 := bc w1.heap.size 2 (by simp)); (simp [World.cell?_alloc_new] at hx2); (have hx3 := bc w1.heap.size 3 (by simp)); (simp [World.cell?_alloc_new] at hx3); (have hx4 := bc w1.heap.size 4 (by simp)); (simp [World.cell?_alloc_new] at hx4); (have hz1 := hb2.size); (try simp at hz1); (have hz2 : w1.heap.size < w2.heap.size := (by omega)); (clear bc bf hz1)))
    go_ret
    exact ⟨rfl, hB2⟩
set_option maxRecDepth 100000 in
theorem isaOneLine_walk (s : ByteArray) (w : World) (R : Rts w) (hs : s.size ≤ 2000000) :
    Calls Tryd.prog 10 #[.string s] w fun e w' => e = .returned (.bool true) ∧ Below w.heap.size w w' := by
  rcases read_any s w R hs with ⟨i, a, b, c, n, hr, hl, he, hc⟩ | ⟨_, ⟨_, hc⟩ | ⟨_, hc⟩⟩
  · exact isaOne_yes s i a b c n w R hr hl he hc
  · exact isaOne_no s 41 w R (.inr rfl) hc
  · exact isaOne_no s 30 w R (.inl rfl) hc
set_option maxRecDepth 100000 in
theorem isaOneLine_anyUpto {H : Type} (enc : TypeId × Value → H) (W : World) (hsh : W.ShapedOpen Tryd.prog) {base : Nat} {v0 : Value} {d0 : DataW H} {p0 : List MemPlace} (o0 : Value.okWide Tryd.prog W .any base 9 v0) (h0 : DataW.Trod enc Tryd.prog W 0 (fun _ => true) true 9 v0 d0 p0)
    (hsz : ∀ x ∈ DataW.weightsEach Tryd.prog [9] [d0], x ≤ reachBytes) (hL : laidMetH Tryd.prog Rows.isaOneLineUptoRow.laid W) (hk : Rows.uptoBulkAll [d0] ≤ 1048576) :
    Calls Tryd.prog 10 #[v0] W fun e w' => e = .returned (.bool true) ∧ Below W.heap.size W w' := by
  obtain ⟨s, rfl, rfl, rfl, hs⟩ := Go.ChangeMaps.open_string Tryd.underlying9 o0 h0
  have R : Rts W := rts_laid hsh (by kernel_rfl) hL (by simp [Rows.isaOneLineUptoRow]) (by simp [Rows.isaOneLineUptoRow]) (by simp [Rows.isaOneLineUptoRow]) (by simp [Rows.isaOneLineUptoRow])
  have hz : s.size ≤ 2000000 := by
    simp [Rows.uptoBulkAll, Rows.uptoBulk] at hk
    omega
  exact isaOneLine_walk s W R hz
end Go.Proofs.YtcbhkeinmdobhaaDoor
