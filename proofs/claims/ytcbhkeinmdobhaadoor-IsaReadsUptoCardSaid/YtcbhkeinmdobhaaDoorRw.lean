import Derived.Test.YtcbhkeinmdobhaaDoorRp
import Derived.Test.YtcbhkeinmdobhaaDoorTw
import Derived.ProofKit
namespace Go.Proofs.YtcbhkeinmdobhaaDoor
open Go.ChangeShapes Go.WideShapes Go.ChangeAt Go.RowKit
set_option linter.unusedVariables false
set_option linter.unusedSimpArgs false

set_option maxRecDepth 100000 in
set_option maxHeartbeats 4000000 in
theorem isaReads_same (s : ByteArray) (i a b c n er : Int) (k : Nat) (w : World)
    (hc : Calls Tryd.prog 28 #[.string s] w fun e w' => e = .returned (.tuple #[ins i a b c n, .int .i64 er]) ∧ Below w.heap.size w w')
    (hr : PReads.bulkheadref03_Read.f k s = some (i, a, b, c, n, er)) :
    Calls Tryd.prog 8 #[.string s] w fun e w' => e = .returned (.bool true) ∧ Below w.heap.size w w' := by
  have hd : ∀ w', Calls Tryd.prog 29 #[.string s] w' fun e w'' => e = .returned (.tuple #[ins i a b c n, .int .i64 er]) ∧ Below w'.heap.size w' w'' := fun w' => PReads.bulkheadref03_Read.calls k s i a b c n er w' hr
  have q := fun w' => eq5 i a b c n w'
  have HC := Lib.hid hc
  have HD := Lib.hid hd
  clear hc hd hr
  go_enter Tryd.func8, Tryd.ntmps8
  go_wp2_with (first | (go_at_call 28; refine (HC.out).mono ?_; rintro e w1 ⟨rfl, hb1⟩; (have hB1 : Below w.heap.size w (w1.alloc (.cells #[.int .u8 i, .int .u8 a, .int .u8 b, .int .u8 c, .int .i32 n] 26)) := hb1.alloc hb1.size _)) | (go_at_call 29; refine (HD.out _).mono ?_; rintro e w2 ⟨rfl, hb2⟩; (have hB2 : Below w.heap.size w w2 := hB1.trans (hb2.mono hB1.size)); (obtain ⟨bc, bf⟩ := bcell hb2); (have hx0 := bc w1.heap.size 0 (by simp)); (simp [World.cell?_alloc_new] at hx0); (have hx1 := bc w1.heap.size 1 (by simp)); (simp [World.cell?_alloc_new] at hx1); (have hx2 := bc w1.heap.size 2 (by simp)); (simp [World.cell?_alloc_new] at hx2); (have hx3 := bc w1.heap.size 3 (by simp)); (simp [World.cell?_alloc_new] at hx3); (have hx4 := bc w1.heap.size 4 (by simp)); (simp [World.cell?_alloc_new] at hx4); (have hz1 := hb2.size); (try simp at hz1); (have hz2 : w1.heap.size < w2.heap.size := (by omega)); (clear bc bf hz1)))
  go_ret
  exact ⟨rfl, hB2.alloc hB2.size _⟩
set_option maxRecDepth 100000 in
theorem isaReads_walk (s : ByteArray) (w : World) (R : Rts w) (hs : s.size ≤ 2000000) :
    Calls Tryd.prog 8 #[.string s] w fun e w' => e = .returned (.bool true) ∧ Below w.heap.size w w' := by
  obtain ⟨h1, h2, h3⟩ := read_ref s hs
  rcases read_any s w R hs with ⟨i, a, b, c, n, hr, hl, he, hc⟩ | ⟨hno, ⟨hn, hc⟩ | ⟨hn, hc⟩⟩
  · obtain ⟨k, hk⟩ := h1 i a b c n hr hl he
    exact isaReads_same s i a b c n 0 k w hc hk
  · obtain ⟨k, hk⟩ := h2 hno hn
    exact isaReads_same s 0 0 0 0 0 41 k w hc hk
  · obtain ⟨k, hk⟩ := h3 hn
    exact isaReads_same s 0 0 0 0 0 30 k w hc hk
set_option maxRecDepth 100000 in
theorem isaReads_anyUpto {H : Type} (enc : TypeId × Value → H) (W : World) (hsh : W.ShapedOpen Tryd.prog) {base : Nat} {v0 : Value} {d0 : DataW H} {p0 : List MemPlace} (o0 : Value.okWide Tryd.prog W .any base 9 v0) (h0 : DataW.Trod enc Tryd.prog W 0 (fun _ => true) true 9 v0 d0 p0)
    (hsz : ∀ x ∈ DataW.weightsEach Tryd.prog [9] [d0], x ≤ reachBytes) (hL : laidMetH Tryd.prog Rows.isaReadsUptoRow.laid W) (hk : Rows.uptoBulkAll [d0] ≤ 1048576) :
    Calls Tryd.prog 8 #[v0] W fun e w' => e = .returned (.bool true) ∧ Below W.heap.size W w' := by
  obtain ⟨s, rfl, rfl, rfl, hs⟩ := Go.ChangeMaps.open_string Tryd.underlying9 o0 h0
  have R : Rts W := rts_laid hsh (by kernel_rfl) hL (by simp [Rows.isaReadsUptoRow]) (by simp [Rows.isaReadsUptoRow]) (by simp [Rows.isaReadsUptoRow]) (by simp [Rows.isaReadsUptoRow])
  have hz : s.size ≤ 2000000 := by
    simp [Rows.uptoBulkAll, Rows.uptoBulk] at hk
    omega
  exact isaReads_walk s W R hz
end Go.Proofs.YtcbhkeinmdobhaaDoor
