import Derived.Test.YticemfakkgebhaaGreatDoorStD
import Derived.Test.YticemfakkgebhaaGreatDoorSf
import Derived.Below
import Derived.Deep.Draws
import Derived.OwnWalk
import Derived.Tactics
import Derived.WalkKit
import Derived.Handy
import Derived.Laws.RangeString
import Derived.Laws.RangeAny
import Derived.LoopTactic
import Derived.Laws.Runes
namespace Go.Proofs.YticemfakkgebhaaGreatDoor.L
open Go Go.RowKit Go.Shelf
set_option linter.unusedVariables false
set_option linter.unusedSimpArgs false
theorem digit_c (c : Int) (w : World) : Calls Tryz.prog 66 #[.int .i32 c] w fun e w' => e = .returned (.int .i64 (dig c)) ∧ w' = w := by
  unfold dig
  by_cases c2 : c < 48
  · rw [if_pos c2]
    have b0 : decide (c < 48) = true := decide_eq_true c2
    go_enter Tryz.func66, Tryz.ntmps66
    go_wp2
    go_ret
    exact ⟨rfl, rfl⟩
  · rw [if_neg c2]
    have b0 : decide (c < 48) = false := decide_eq_false c2
    by_cases c3 : c > 57
    · rw [if_pos c3]
      have b1 : decide (57 < c) = true := decide_eq_true c3
      clear c2
      go_enter Tryz.func66, Tryz.ntmps66
      go_wp2
      go_ret
      exact ⟨rfl, rfl⟩
    · rw [if_neg c3]
      have b1 : decide (57 < c) = false := decide_eq_false c3
      clear c2 c3
      go_enter Tryz.func66, Tryz.ntmps66
      go_wp2
      go_ret
      exact ⟨by first | rfl | (simp; done) | (simp [*]; done), rfl⟩
theorem numF_end (s : ByteArray) (b pos : Nat) (n : Int) (h : ¬ pos < s.size) : numF s b pos n = n := by
  cases b with
  | zero => rfl
  | succ b => simp [numF, h]
theorem width_pos (s : ByteArray) (pos : Nat) (h : pos < s.size) : 1 ≤ (Utf8.decode s pos).2 := by
  by_cases ha : (s[pos]'h).toNat < 128
  · rw [decode_ascii s pos h ha]
    exact Nat.le_refl _
  · exact (decode_high s pos h (by omega)).2
def number_f (s : ByteArray) : Option Int := some (if minus s then wrap64 (-(numF s s.size 0 0)) else numF s s.size 0 0)
set_option maxRecDepth 1000000 in
theorem number_calls (a0 : ByteArray) (r : Int) (w : World) (h : number_f a0 = some r) :
    Calls Tryz.prog 53 #[.string a0] w fun e w' => e = .returned (.int .i64 r) ∧ Below w.heap.size w w' := by
  unfold number_f at h
  obtain rfl := Option.some.inj h
  clear h
  generalize hv : (if minus a0 = true then wrap64 (-(numF a0 a0.size 0 0)) else numF a0 a0.size 0 0) = v
  go_enter Tryz.func53, Tryz.ntmps53
  go_wp2
  go_loopw [3] (fun n w' => ∃ (pos b : Nat) (acc : Int), w' = w.iter a0 pos ∧ n = .int .i64 acc ∧ numF a0 b pos acc = numF a0 a0.size 0 0 ∧ a0.size ≤ pos + b) (fun _ w' => a0.size - w'.iterPos w.heap.size)
  case atStart => exact ⟨0, a0.size, 0, rfl, rfl, rfl, by omega⟩
  case round =>
    obtain ⟨pos, b, acc, rfl, rfl, hc, hb⟩ := hrel
    by_cases hp : pos < a0.size
    · have hnx : ∀ ty, (Instr.next (.pointer (some ⟨w.heap.size, 0, none⟩)) true ty).run Tryz.prog (w.iter a0 pos) = _ := fun ty => run_next_any w a0 pos ty hp
      have hwd := width_pos a0 pos hp
      generalize hcc : ((Utf8.decode a0 pos).1 : Int) = c at hnx
      have hnext : numF a0 (b - 1) (pos + (Utf8.decode a0 pos).2) (stepN acc c) = numF a0 a0.size 0 0 ∧ 0 < b := by
        cases b with
        | zero => omega
        | succ b =>
          rw [← hc]
          constructor
          · simp only [numF, hp, if_true, Nat.add_sub_cancel, hcc]
          · omega
      unfold stepN at hnext
      by_cases hd : dig c ≥ 0
      · have b0 : decide (0 ≤ dig c) = true := decide_eq_true hd
        rw [if_pos hd] at hnext
        clear hd
        go_wp2_with (first | (go_at_call 66; (refine (digit_c _ _).mono ?_); rintro e w2 ⟨rfl, rfl⟩))
        go_roundw
        case rel => exact ⟨pos + (Utf8.decode a0 pos).2, b - 1, _, rfl, rfl, hnext.1, by omega⟩
        case measure =>
          simp
          omega
      · have b0 : decide (0 ≤ dig c) = false := decide_eq_false hd
        rw [if_neg hd] at hnext
        clear hd
        go_wp2_with (first | (go_at_call 66; (refine (digit_c _ _).mono ?_); rintro e w2 ⟨rfl, rfl⟩))
        go_roundw
        case rel => exact ⟨pos + (Utf8.decode a0 pos).2, b - 1, _, rfl, rfl, hnext.1, by omega⟩
        case measure =>
          simp
          omega
    · have hnx : ∀ ty, (Instr.next (.pointer (some ⟨w.heap.size, 0, none⟩)) true ty).run Tryz.prog (w.iter a0 pos) = _ := fun ty => run_next_end w a0 pos ty hp
      rw [numF_end a0 b pos acc hp] at hc
      rw [← hc] at hv
      have hbel : Below w.heap.size w (w.iter a0 pos) := Below.alloc (Below.refl _ _) (Nat.le_refl _) _
      generalize hm : minus a0 = mi at hv
      unfold minus at hm
      cases mi with
      | true =>
        rw [if_pos rfl] at hv
        go_wp2_with (first | (go_at_call 67; (refine (Tryz.strings_HasPrefix _ _ _).mono ?_); rintro e w2 ⟨rfl, rfl⟩; (have hm' := hm); rw [show (⟨#[45]⟩ : ByteArray).data.toList = [45] from rfl, hm]))
        go_ret
        exact ⟨by first | rfl | (simp; done) | (simp [*]; done) | (rw [← hv]; simp; done) | (subst hv; simp [*]; done), hbel⟩
      | false =>
        rw [if_neg (by decide)] at hv
        go_wp2_with (first | (go_at_call 67; (refine (Tryz.strings_HasPrefix _ _ _).mono ?_); rintro e w2 ⟨rfl, rfl⟩; rw [show (⟨#[45]⟩ : ByteArray).data.toList = [45] from rfl, hm]))
        go_ret
        exact ⟨by first | rfl | (simp; done) | (simp [*]; done) | (rw [← hv]; simp; done) | (subst hv; simp [*]; done), hbel⟩
end Go.Proofs.YticemfakkgebhaaGreatDoor.L
