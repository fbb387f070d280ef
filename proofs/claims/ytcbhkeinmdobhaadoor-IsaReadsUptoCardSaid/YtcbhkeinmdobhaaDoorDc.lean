import Derived.Test.YtcbhkeinmdobhaaDoorSh2
import Derived.Laws.IdiomStrings
namespace Go.Proofs.YtcbhkeinmdobhaaDoor
open Go.ChangeShapes Go.WideShapes Go.ChangeAt Go.RowKit
set_option linter.unusedVariables false
set_option linter.unusedSimpArgs false

def dch (m : Nat) : ByteArray := ⟨#[UInt8.ofNat m]⟩
theorem digit1 {ops : Array Oper} {rest : List Oper} {o : Oper} {a : Act} {Q : Exit → Act → World → Prop} {w : World} (hgd : o.guard = none) (x : Operand)
    (ho : o.op = .convert 51 9 x) (y : Int) (m : Nat) (hy : y = (m : Int)) (hm : m < 256) (hx : a.eval x = .slice (some ⟨w.heap.size, 0, none⟩) 1 1)
    (h : wpList Tryd.prog ops Q rest (a.put o.dst (.string (dch m))) (w.alloc (.cells #[.int .u8 y] 5))) :
    wpList Tryd.prog ops Q (o :: rest) a (w.alloc (.cells #[.int .u8 y] 5)) := by
  refine wpList_plain hgd fun K hK => ?_
  have hm' : ((UInt8.ofNat m).toNat : Int) = y := by rw [hy]; simp; omega
  have hr := run_convert_bytes_back (P := Tryd.prog) (w.alloc (.cells #[.int .u8 y] 5)) 51 9 5 ⟨w.heap.size, 0, none⟩ 1 [UInt8.ofNat m] Tryd.underlying51 Tryd.underlying5 Tryd.underlying9 (by
    intro j hj
    have : j = 0 := by simpa using hj
    subst this
    simp only [List.getElem_cons_zero, hm']
    exact new_cell w #[.int .u8 y] 5 0 _ rfl)
  unfold Oper.wp execOp
  simp only [ho, Sem.run_bind, Sem.run_pure, Result.andThen_ok, hx]
  simp only [List.length_cons, List.length_nil, Nat.zero_add] at hr
  rw [hr]
  exact hK _ _ h
theorem dig_small (u : Nat) (h : u < 10) : dch (48 + u % 10) = dig u := by
  unfold dig dch
  rw [Lib.decDigits_one h, Nat.mod_eq_of_lt h]
theorem dig_big (u : Nat) (h : ¬ u < 10) : dig (u / 10) ++ dch (48 + u % 10) = dig u := by
  unfold dig dch
  conv => rhs; rw [Lib.decDigits, dif_neg h]
  apply ByteArray.ext
  rw [ByteArray.data_append]
  simp
theorem dig_size10 (u : Nat) (h : u ≤ 2147483648) : (dig u).size ≤ 40 := by
  show (Lib.decDigits u).toArray.size ≤ 40
  have h1 := Lib.itoa_length_le (u : Int) (by omega) (by omega)
  rw [Lib.itoa_nonneg] at h1
  simp; omega
set_option maxRecDepth 20000 in
theorem decimal_nat : ∀ (u : Nat), u ≤ 2147483648 → ∀ w : World, Calls Tryd.prog 49 #[.int .i64 u] w fun e w' => e = .returned (.string (dig u)) ∧ Below w.heap.size w w' := by
  intro u
  induction u using Nat.strongRecOn with
  | ind u ih =>
    intro hu w
    have hy : (48 + (u : Int) % 10) = ((48 + u % 10 : Nat) : Int) := by omega
    have HY := Lib.hid hy
    clear hy
    by_cases h : u < 10
    · clear ih
      go_enter Tryd.func49, Tryd.ntmps49
      go_wp2_with (refine digit1 rfl (.tmp 14) rfl _ (48 + u % 10) HY.out (by omega) rfl ?_)
      go_ret
      exact ⟨congrArg (fun z => Ending.returned (Value.string z)) (dig_small u h), by go_grown⟩
    · have hq : (u : Int).tdiv 10 = ((u / 10 : Nat) : Int) := by rw [Int.tdiv_eq_ediv_of_nonneg (by omega)]; omega
      have hs : ((u : Int) / 10) = ((u / 10 : Nat) : Int) := by omega
      have ih' := ih (u / 10) (by omega) (by omega)
      have hz2 : (dch (48 + u % 10)).size = 1 := rfl
      have hz1 := dig_size10 (u / 10) (by omega)
      clear ih
      have HQ := Lib.hid hq
      have HS := Lib.hid hs
      clear hq hs
      go_enter Tryd.func49, Tryd.ntmps49
      go_wp2_with (first | (refine digit1 rfl (.tmp 14) rfl _ (48 + u % 10) HY.out (by omega) rfl ?_) | (go_at_call 49; (first | rw [HQ.out] | rw [HS.out]); refine (ih' _).mono ?_; rintro e w' ⟨rfl, hb⟩))
      go_ret
      exact ⟨congrArg (fun z => Ending.returned (Value.string z)) (dig_big u h), ((Below.refl _ _).alloc (Nat.le_refl _) _).trans (hb.mono (by simp))⟩
set_option maxRecDepth 20000 in
theorem decimal (n : Int) (h0 : -2147483648 ≤ n) (h1 : n ≤ 2147483647) (w : World) : Calls Tryd.prog 49 #[.int .i64 n] w fun e w' => e = .returned (.string (dec n)) ∧ Below w.heap.size w w' := by
  by_cases hn : 0 ≤ n
  · obtain ⟨u, rfl⟩ := Int.eq_ofNat_of_zero_le hn
    have := decimal_nat u (by omega) w
    rwa [show dig u = dec (u : Int) from by unfold dig dec; rw [Lib.itoa_nonneg]] at this
  · obtain ⟨u, hu⟩ := Int.eq_ofNat_of_zero_le (show 0 ≤ -n by omega)
    have hz1 := dig_size10 u (by omega)
    have hee : (⟨#[45]⟩ : ByteArray) ++ dig u = dec n := by
      have : n = -(u : Int) := by omega
      rw [this]
      unfold dig dec
      rw [Lib.itoa_neg u (by omega)]
      apply ByteArray.ext
      rw [ByteArray.data_append]
      simp
    have hd := decimal_nat u (by omega)
    have HU := Lib.hid hu
    have hw : IntKind.i64.wrap (-n) = (u : Int) := by rw [hu]; exact IntWalk.i64_in _ (by omega)
    have HW := Lib.hid hw
    clear hu hw
    go_enter Tryd.func49, Tryd.ntmps49
    go_wp2_with (go_at_call 49; (first | rw [HU.out] | rw [HW.out]); refine (hd _).mono ?_; rintro e w' ⟨rfl, hb⟩)
    go_ret
    exact ⟨rfl, hb⟩
end Go.Proofs.YtcbhkeinmdobhaaDoor
