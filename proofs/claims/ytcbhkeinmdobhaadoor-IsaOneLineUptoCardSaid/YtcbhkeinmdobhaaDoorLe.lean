import Derived.Test.YtcbhkeinmdobhaaDoorRl
namespace Go.Proofs.YtcbhkeinmdobhaaDoor
open Go.ChangeShapes Go.WideShapes Go.ChangeAt Go.RowKit
set_option linter.unusedVariables false
set_option linter.unusedSimpArgs false

/-- legal, by the number and the fields -/
def legalB (op a b c n : Int) : Bool := decide (1 ≤ op ∧ op ≤ 27) && legalS (opShapes.getD op.toNat []) a b c n
theorem shapeB_list (i : Nat) : (shapeB i).data.toList = opShapes.getD i [] := by simp [shapeB]
theorem shapeB_size (i : Nat) (h1 : 1 ≤ i) (h2 : i ≤ 27) : (shapeB i).size ≤ 100 := by
  have : i = 0 ∨ i = 1 ∨ i = 2 ∨ i = 3 ∨ i = 4 ∨ i = 5 ∨ i = 6 ∨ i = 7 ∨ i = 8 ∨ i = 9 ∨ i = 10 ∨ i = 11 ∨ i = 12 ∨ i = 13 ∨ i = 14 ∨ i = 15 ∨ i = 16 ∨ i = 17 ∨ i = 18 ∨ i = 19 ∨ i = 20 ∨ i = 21 ∨ i = 22 ∨ i = 23 ∨ i = 24 ∨ i = 25 ∨ i = 26 ∨ i = 27 := by omega
  rcases this with rfl | rfl | rfl | rfl | rfl | rfl | rfl | rfl | rfl | rfl | rfl | rfl | rfl | rfl | rfl | rfl | rfl | rfl | rfl | rfl | rfl | rfl | rfl | rfl | rfl | rfl | rfl | rfl <;> decide
theorem shape_cases (i : Nat) (h1 : 1 ≤ i) (h2 : i ≤ 27) : shapeB i = ⟨#[]⟩ ∨ shapeB i = ⟨#[97, 110]⟩ ∨ shapeB i = ⟨#[97, 98]⟩ ∨ shapeB i = ⟨#[97, 98, 110]⟩ ∨ shapeB i = ⟨#[97, 98, 99]⟩ ∨ shapeB i = ⟨#[112]⟩ ∨ shapeB i = ⟨#[97, 112]⟩ ∨ shapeB i = ⟨#[97]⟩ ∨ shapeB i = ⟨#[110]⟩ := by
  have : i = 1 ∨ i = 2 ∨ i = 3 ∨ i = 4 ∨ i = 5 ∨ i = 6 ∨ i = 7 ∨ i = 8 ∨ i = 9 ∨ i = 10 ∨ i = 11 ∨ i = 12 ∨ i = 13 ∨ i = 14 ∨ i = 15 ∨ i = 16 ∨ i = 17 ∨ i = 18 ∨ i = 19 ∨ i = 20 ∨ i = 21 ∨ i = 22 ∨ i = 23 ∨ i = 24 ∨ i = 25 ∨ i = 26 ∨ i = 27 := by omega
  rcases this with rfl | rfl | rfl | rfl | rfl | rfl | rfl | rfl | rfl | rfl | rfl | rfl | rfl | rfl | rfl | rfl | rfl | rfl | rfl | rfl | rfl | rfl | rfl | rfl | rfl | rfl | rfl <;> simp [shapeB, opShapes]

theorem legal_yes (i : Nat) (a b c n : Int) (w : World) (h1 : 1 ≤ i) (h2 : i ≤ 27) (ha : 0 ≤ a) (hb : 0 ≤ b) (hc : 0 ≤ c) (hT : TabOk w) (hz : 0 < w.heap.size) :
    Calls Tryd.prog 25 #[ins i a b c n] w fun e w' => e = .returned (.bool (legalS (opShapes.getD i []) a b c n)) ∧ Below w.heap.size w w' := by
  have hn := (hT i (by omega)).2
  rw [← shapeB_list]
  rcases shape_cases i h1 h2 with h | h | h | h | h | h | h | h | h
  · rw [h]; exact legal_none i a b c n w h1 h2 h ha hb hc hn hz
  · rw [h]; exact legal_an i a b c n w h1 h2 h ha hb hc hn hz
  · rw [h]; exact legal_ab i a b c n w h1 h2 h ha hb hc hn hz
  · rw [h]; exact legal_abn i a b c n w h1 h2 h ha hb hc hn hz
  · rw [h]; exact legal_abc i a b c n w h1 h2 h ha hb hc hn hz
  · rw [h]; exact legal_p i a b c n w h1 h2 h ha hb hc hn hz
  · rw [h]; exact legal_ap i a b c n w h1 h2 h ha hb hc hn hz
  · rw [h]; exact legal_a i a b c n w h1 h2 h ha hb hc hn hz
  · rw [h]; exact legal_n i a b c n w h1 h2 h ha hb hc hn hz

theorem legal_no (op a b c n : Int) (w : World) (h : op < 1 ∨ 27 < op) (h0 : 0 ≤ op) (h2 : op < 256) :
    Calls Tryd.prog 25 #[ins op a b c n] w fun e w' => e = .returned (.bool false) ∧ Below w.heap.size w w' := by
  go_enter Tryd.func25, Tryd.ntmps25
  go_wp2_with (go_at_call 13; refine (shape_no _ _ h h0 h2).mono ?_; rintro e w' ⟨rfl, rfl⟩)
  refine wp_loop_rounds 1 ?_
  rw [rounds_succ]
  go_wp2
  go_ret
  exact ⟨rfl, by go_grown⟩
theorem legal (op a b c n : Int) (w : World) (h0 : 0 ≤ op) (h2 : op < 256) (ha : 0 ≤ a) (hb : 0 ≤ b) (hc : 0 ≤ c) (hT : TabOk w) (hz : 0 < w.heap.size) :
    Calls Tryd.prog 25 #[ins op a b c n] w fun e w' => e = .returned (.bool (legalB op a b c n)) ∧ Below w.heap.size w w' := by
  by_cases h : 1 ≤ op ∧ op ≤ 27
  · obtain ⟨i, rfl⟩ := Int.eq_ofNat_of_zero_le h0
    have := legal_yes i a b c n w (by omega) (by omega) ha hb hc hT hz
    simpa [legalB, h] using this
  · have := legal_no op a b c n w (by omega) h0 h2
    simpa [legalB, h] using this
theorem bcell {W w1 : World} (hb : Below W.heap.size W w1) : (∀ b o, b < W.heap.size → w1.cell? ⟨b, o, none⟩ = W.cell? ⟨b, o, none⟩) ∧ (∀ b o, b < W.heap.size → w1.frozen? ⟨b, o, none⟩ = W.frozen? ⟨b, o, none⟩) :=
  ⟨fun b o h => hb.cell (p := ⟨b, o, none⟩) h, fun b o h => hb.frozen (p := ⟨b, o, none⟩) h⟩
theorem below_dn {B : Nat} {w W : World} (h : Below B w W) (n : Nat) : Below B w (W.drewN n) := ⟨h.os, h.tape, h.output, h.size, h.block⟩
theorem rlegal_no (op a b c n : Int) (w : World) (h : op < 1 ∨ 27 < op) (h0 : 0 ≤ op) (h2 : op < 256) :
    Calls Tryd.prog 26 #[ins op a b c n] w fun e w' => e = .returned (.bool false) ∧ Below w.heap.size w w' := by
  go_enter Tryd.func26, Tryd.ntmps26
  go_wp2_with (go_at_call 14; refine (rshape_no _ _ h h0 h2).mono ?_; rintro e w' ⟨rfl, rfl⟩)
  go_quiet (fail)
  go_wp2
  go_ret
  exact ⟨rfl, below_dn (by go_grown) _⟩
theorem rlegal (op a b c n : Int) (w : World) (h0 : 0 ≤ op) (h2 : op < 256) :
    Calls Tryd.prog 26 #[ins op a b c n] w fun e w' => e = .returned (.bool (legalB op a b c n)) ∧ Below w.heap.size w w' := by
  by_cases h : 1 ≤ op ∧ op ≤ 27
  · obtain ⟨i, rfl⟩ := Int.eq_ofNat_of_zero_le h0
    have := rlegal_yes i a b c n w (by omega) (by omega) (shapeB_size i (by omega) (by omega))
    rw [shapeB_list] at this
    simpa [legalB, h] using this
  · have := rlegal_no op a b c n w (by omega) h0 h2
    simpa [legalB, h] using this
end Go.Proofs.YtcbhkeinmdobhaaDoor
