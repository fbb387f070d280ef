import Derived.Test.YtcbhkeinmdobhaaDoorMa
namespace Go.Proofs.YtcbhkeinmdobhaaDoor
open Go.ChangeShapes Go.WideShapes Go.ChangeAt Go.RowKit
set_option linter.unusedVariables false
set_option linter.unusedSimpArgs false

set_option maxHeartbeats 1000000 in
set_option maxRecDepth 20000 in
theorem plain_none (op a b c n : Int) (w : World) :
    Calls Tryd.prog 27 #[ins op a b c n, .string ⟨#[]⟩] w fun e w' => e = .returned (ins op a b c n) ∧ Below w.heap.size w w' := by
  go_enter Tryd.func27, Tryd.ntmps27
  go_wp2
  refine wp_loop_rounds 1 ?_
  repeat any_goals (rw [rounds_succ]; go_wp2)
  exact bodyPost_ret (v := (ins op a b c n)) (by simp [results, Tryd.results27, go_sem]) rfl ⟨rfl, by go_grown⟩
set_option maxHeartbeats 1000000 in
set_option maxRecDepth 20000 in
theorem plain_an (op a b c n : Int) (w : World) :
    Calls Tryd.prog 27 #[ins op a b c n, .string ⟨#[97, 110]⟩] w fun e w' => e = .returned (ins op 0 b c 0) ∧ Below w.heap.size w w' := by
  have E0 : ((⟨#[97, 110]⟩ : ByteArray)[0]'(by decide)).toNat = 97 := rfl
  have E1 : ((⟨#[97, 110]⟩ : ByteArray)[1]'(by decide)).toNat = 110 := rfl
  go_enter Tryd.func27, Tryd.ntmps27
  go_wp2
  refine wp_loop_rounds 3 ?_
  repeat any_goals (rw [rounds_succ]; go_wp2)
  exact bodyPost_ret (v := (ins op 0 b c 0)) (by simp [results, Tryd.results27, go_sem]) rfl ⟨rfl, by go_grown⟩
set_option maxHeartbeats 1000000 in
set_option maxRecDepth 20000 in
theorem plain_ab (op a b c n : Int) (w : World) :
    Calls Tryd.prog 27 #[ins op a b c n, .string ⟨#[97, 98]⟩] w fun e w' => e = .returned (ins op 0 0 c n) ∧ Below w.heap.size w w' := by
  have E0 : ((⟨#[97, 98]⟩ : ByteArray)[0]'(by decide)).toNat = 97 := rfl
  have E1 : ((⟨#[97, 98]⟩ : ByteArray)[1]'(by decide)).toNat = 98 := rfl
  go_enter Tryd.func27, Tryd.ntmps27
  go_wp2
  refine wp_loop_rounds 3 ?_
  repeat any_goals (rw [rounds_succ]; go_wp2)
  exact bodyPost_ret (v := (ins op 0 0 c n)) (by simp [results, Tryd.results27, go_sem]) rfl ⟨rfl, by go_grown⟩
set_option maxHeartbeats 1000000 in
set_option maxRecDepth 20000 in
theorem plain_abn (op a b c n : Int) (w : World) :
    Calls Tryd.prog 27 #[ins op a b c n, .string ⟨#[97, 98, 110]⟩] w fun e w' => e = .returned (ins op 0 0 c 0) ∧ Below w.heap.size w w' := by
  have E0 : ((⟨#[97, 98, 110]⟩ : ByteArray)[0]'(by decide)).toNat = 97 := rfl
  have E1 : ((⟨#[97, 98, 110]⟩ : ByteArray)[1]'(by decide)).toNat = 98 := rfl
  have E2 : ((⟨#[97, 98, 110]⟩ : ByteArray)[2]'(by decide)).toNat = 110 := rfl
  go_enter Tryd.func27, Tryd.ntmps27
  go_wp2
  refine wp_loop_rounds 4 ?_
  repeat any_goals (rw [rounds_succ]; go_wp2)
  exact bodyPost_ret (v := (ins op 0 0 c 0)) (by simp [results, Tryd.results27, go_sem]) rfl ⟨rfl, by go_grown⟩
set_option maxHeartbeats 1000000 in
set_option maxRecDepth 20000 in
theorem plain_abc (op a b c n : Int) (w : World) :
    Calls Tryd.prog 27 #[ins op a b c n, .string ⟨#[97, 98, 99]⟩] w fun e w' => e = .returned (ins op 0 0 0 n) ∧ Below w.heap.size w w' := by
  have E0 : ((⟨#[97, 98, 99]⟩ : ByteArray)[0]'(by decide)).toNat = 97 := rfl
  have E1 : ((⟨#[97, 98, 99]⟩ : ByteArray)[1]'(by decide)).toNat = 98 := rfl
  have E2 : ((⟨#[97, 98, 99]⟩ : ByteArray)[2]'(by decide)).toNat = 99 := rfl
  go_enter Tryd.func27, Tryd.ntmps27
  go_wp2
  refine wp_loop_rounds 4 ?_
  repeat any_goals (rw [rounds_succ]; go_wp2)
  exact bodyPost_ret (v := (ins op 0 0 0 n)) (by simp [results, Tryd.results27, go_sem]) rfl ⟨rfl, by go_grown⟩
set_option maxHeartbeats 1000000 in
set_option maxRecDepth 20000 in
theorem plain_p (op a b c n : Int) (w : World) :
    Calls Tryd.prog 27 #[ins op a b c n, .string ⟨#[112]⟩] w fun e w' => e = .returned (ins op a b c 0) ∧ Below w.heap.size w w' := by
  have E0 : ((⟨#[112]⟩ : ByteArray)[0]'(by decide)).toNat = 112 := rfl
  go_enter Tryd.func27, Tryd.ntmps27
  go_wp2
  refine wp_loop_rounds 2 ?_
  repeat any_goals (rw [rounds_succ]; go_wp2)
  exact bodyPost_ret (v := (ins op a b c 0)) (by simp [results, Tryd.results27, go_sem]) rfl ⟨rfl, by go_grown⟩
set_option maxHeartbeats 1000000 in
set_option maxRecDepth 20000 in
theorem plain_ap (op a b c n : Int) (w : World) :
    Calls Tryd.prog 27 #[ins op a b c n, .string ⟨#[97, 112]⟩] w fun e w' => e = .returned (ins op 0 b c 0) ∧ Below w.heap.size w w' := by
  have E0 : ((⟨#[97, 112]⟩ : ByteArray)[0]'(by decide)).toNat = 97 := rfl
  have E1 : ((⟨#[97, 112]⟩ : ByteArray)[1]'(by decide)).toNat = 112 := rfl
  go_enter Tryd.func27, Tryd.ntmps27
  go_wp2
  refine wp_loop_rounds 3 ?_
  repeat any_goals (rw [rounds_succ]; go_wp2)
  exact bodyPost_ret (v := (ins op 0 b c 0)) (by simp [results, Tryd.results27, go_sem]) rfl ⟨rfl, by go_grown⟩
set_option maxHeartbeats 1000000 in
set_option maxRecDepth 20000 in
theorem plain_a (op a b c n : Int) (w : World) :
    Calls Tryd.prog 27 #[ins op a b c n, .string ⟨#[97]⟩] w fun e w' => e = .returned (ins op 0 b c n) ∧ Below w.heap.size w w' := by
  have E0 : ((⟨#[97]⟩ : ByteArray)[0]'(by decide)).toNat = 97 := rfl
  go_enter Tryd.func27, Tryd.ntmps27
  go_wp2
  refine wp_loop_rounds 2 ?_
  repeat any_goals (rw [rounds_succ]; go_wp2)
  exact bodyPost_ret (v := (ins op 0 b c n)) (by simp [results, Tryd.results27, go_sem]) rfl ⟨rfl, by go_grown⟩
set_option maxHeartbeats 1000000 in
set_option maxRecDepth 20000 in
theorem plain_n (op a b c n : Int) (w : World) :
    Calls Tryd.prog 27 #[ins op a b c n, .string ⟨#[110]⟩] w fun e w' => e = .returned (ins op a b c 0) ∧ Below w.heap.size w w' := by
  have E0 : ((⟨#[110]⟩ : ByteArray)[0]'(by decide)).toNat = 110 := rfl
  go_enter Tryd.func27, Tryd.ntmps27
  go_wp2
  refine wp_loop_rounds 2 ?_
  repeat any_goals (rw [rounds_succ]; go_wp2)
  exact bodyPost_ret (v := (ins op a b c 0)) (by simp [results, Tryd.results27, go_sem]) rfl ⟨rfl, by go_grown⟩
end Go.Proofs.YtcbhkeinmdobhaaDoor
