import Derived.Test.YtjnnmgjpnbfhlaaGn
import Derived.Test.YtjnnmgjpnbfhlaaPOncex1
import Derived.Test.YtjnnmgjpnbfhlaaPOncex10
namespace Go.Proofs.Ytjnnmgjpnbfhlaa.POnce
open Go.RowKit Go.Shelf Go.Proofs.YtjnnmgjpnbfhlaaW.PrintWords Go.Proofs.YtjnnmgjpnbfhlaaW.PrintLast Go.Proofs.YtjnnmgjpnbfhlaaW.PrintMore
set_option linter.unusedVariables false
set_option linter.unusedSimpArgs false

/-- the channel that an out port feeds, and the one that feeds an in port; the ends of a channel, as far as the example asks -/
def channel_FromPort.f (l0_0 : List S71) (l0_1 : List S47) (l0_2 : List S24) (a1 : Int) : Option Int :=
  if l0_2.length ≤ 1000000000000 then some (if a1 < 1 then 0 else (nums (fun i => (rd_T24 l0_2 i).f1 == a1) l0_2.length).headD 0) else none
def channel_ToPort.f (l0_0 : List S71) (l0_1 : List S47) (l0_2 : List S24) (a1 : Int) : Option Int :=
  if l0_2.length ≤ 1000000000000 ∧ (l0_2.all fun c => decide (c.f2.length ≤ 1000000000000)) = true then some (if a1 < 1 then 0 else (nums (fun i => (rd_T24 l0_2 i).f2.contains a1) l0_2.length).headD 0) else none
def channel_Parts.f (l0_0 : List S71) (l0_1 : List S47) (l0_2 : List S24) (a1 : Int) : Option (Int × List Int × Int) :=
  if l0_1.length = 2 ∧ (rd_T47 l0_1 0).f0 = 2 ∧ (rd_T47 l0_1 1).f0 = 3 ∧ l0_2.length = 1 ∧ (rd_T24 l0_2 0).f1 = 1 ∧ (rd_T24 l0_2 0).f2 = [2] ∧ a1 = 1 then some (2, [3], 0) else none

set_option maxRecDepth 100000 in
theorem numbers_c (s0 s1 s2 : Value) (g Bp : Nat) (w : World) : Calls Try.prog 40 #[.agg #[s0, s1, s2], .func (.func g) #[] #[.pointer (some ⟨Bp, 0, none⟩)]] w fun e w' =>
    e = .returned (.func (.func 56) #[] #[.pointer (some ⟨w.heap.size, 0, none⟩), .pointer (some ⟨w.heap.size + 1, 0, none⟩)]) ∧ w' = (w.alloc (.cells #[s0, s1, s2] 34)).alloc (.cells #[.func (.func g) #[] #[.pointer (some ⟨Bp, 0, none⟩)]] 50) := by
  go_enter Try.func40, Try.ntmps40
  go_wp2
  go_ret
  exact ⟨rfl, rfl⟩
set_option maxRecDepth 100000 in
theorem is43 (f0 f1 f2 f3 f4 : Value) (x a1 : Int) (hf : f1 = .int .i64 x) (Bp : Nat) (w : World) (hp : w.cell? ⟨Bp, 0, none⟩ = some (.int .i64 a1)) :
    Calls Try.prog 43 #[.agg #[f0, f1, f2, f3, f4], .pointer (some ⟨Bp, 0, none⟩)] w fun e w' => e = .returned (.bool (x == a1)) ∧ Below w.heap.size w w' := by
  subst hf
  have hlt := World.block_lt_of_cell? w _ hp
  go_enter Try.func43, Try.ntmps43
  go_wp2
  all_goals go_ret
  all_goals exact ⟨rfl, (Below.refl _ _).alloc (Nat.le_refl _) _⟩
set_option maxRecDepth 100000 in
set_option maxHeartbeats 1000000 in
theorem channel_FromPort.calls (A0_0 : Option Addr) (c0_0 : Nat) (l0_0 : List (S71)) (A0_1 : Option Addr) (c0_1 : Nat) (l0_1 : List (S47)) (A0_2 : Option Addr) (c0_2 : Nat) (l0_2 : List (S24)) (a1 : Int) (r : Int) (w : World) (hr0_0 : Kd.C k71 w A0_0 l0_0.length l0_0) (hc0_0 : l0_0.length ≤ c0_0) (hr0_1 : Kd.C k47 w A0_1 l0_1.length l0_1) (hc0_1 : l0_1.length ≤ c0_1) (hr0_2 : Kd.C k24 w A0_2 l0_2.length l0_2) (hc0_2 : l0_2.length ≤ c0_2) (h : channel_FromPort.f l0_0 l0_1 l0_2 a1 = some r) :
    Calls Try.prog 24 #[.agg #[.slice A0_0 l0_0.length c0_0, .slice A0_1 l0_1.length c0_1, .slice A0_2 l0_2.length c0_2], .int .i64 a1] w fun e w' => e = .returned (.int .i64 r) ∧ Below w.heap.size w w' := by
  unfold channel_FromPort.f at h
  split at h
  case isFalse => cases h
  rename_i hlen
  injection h with h
  by_cases ha : a1 < 1
  · rw [if_pos ha] at h
    subst h
    go_enter Try.func24, Try.ntmps24
    go_wp2
    go_ret
    exact ⟨rfl, ((Below.refl _ _).alloc (Nat.le_refl _) _).alloc (by simp) _⟩
  · rw [if_neg ha] at h
    obtain ⟨W, hW⟩ : ∃ W : World, W = (((w.alloc (.cells #[.slice A0_0 l0_0.length c0_0, .slice A0_1 l0_1.length c0_1, .slice A0_2 l0_2.length c0_2] 34)).alloc (.cells #[.int .i64 a1] 3)).alloc (.cells #[.slice A0_0 l0_0.length c0_0, .slice A0_1 l0_1.length c0_1, .slice A0_2 l0_2.length c0_2] 34)).alloc (.cells #[.func (.func 43) #[] #[.pointer (some ⟨w.heap.size + 1, 0, none⟩)]] 50) := ⟨_, rfl⟩
    have hB : Below w.heap.size w W := by rw [hW]; exact ((((Below.refl _ _).alloc (Nat.le_refl _) _).alloc (by simp) _).alloc (by simp; omega) _).alloc (by simp; omega) _
    have hp : W.cell? ⟨w.heap.size + 1, 0, none⟩ = some (.int .i64 a1) := by
      rw [hW, World.cell?_alloc_past _ _ _ (by simp), World.cell?_alloc_past _ _ _ (by simp), World.cell?_alloc_at _ _ _ _ (by simp)]; rfl
    have hx : W.cell? ⟨w.heap.size + 2, 2, none⟩ = some (.slice A0_2 l0_2.length c0_2) := by
      rw [hW, World.cell?_alloc_past _ _ _ (by simp), World.cell?_alloc_at _ _ _ _ (by simp)]; rfl
    have hi : W.cell? ⟨w.heap.size + 3, 0, none⟩ = some (.func (.func 43) #[] #[.pointer (some ⟨w.heap.size + 1, 0, none⟩)]) := by
      rw [hW, World.cell?_alloc_at _ _ _ _ (by simp)]; rfl
    have hsz : W.heap.size = w.heap.size + 4 := by rw [hW]; simp
    have hf := first43 (w.heap.size + 2) (w.heap.size + 3) (w.heap.size + 1) l0_2.length c0_2 A0_2 l0_2 (fun i => (rd_T24 l0_2 i).f1 == a1) hlen W (Kd.C_below hr0_2 hB)
      (fun W' hW' i hi A2 c2 _ _ => is43 _ _ _ _ _ _ a1 rfl _ W' ((hW'.cell (p := ⟨w.heap.size + 1, 0, none⟩) (by show w.heap.size + 1 < W.heap.size; omega)).trans hp)) (by omega) (by omega) hx hi
    rw [h] at hf
    have HF := Lib.hid hf
    have HW := Lib.hid hW
    have HB := Lib.hid hB
    clear hf hW hp hx hi hB h
    go_enter Try.func24, Try.ntmps24
    go_wp2_with (first | (go_at_call 40; go_must (refine (numbers_c _ _ _ _ _ _).mono ?_; rintro e w3 ⟨rfl, rfl⟩)) | (go_at_call 39; go_must (rw [← HW.out]; refine (HF.out).mono ?_; rintro e w4 ⟨rfl, hb4⟩)))
    go_ret
    exact ⟨rfl, HB.out.trans (hb4.mono HB.out.size)⟩

theorem index_go (L : List Int) (a : Int) (hL : L.length ≤ 1000000000000) : ∀ (d k i : Nat), i ≤ L.length → L.length - i = d → d < k → ∃ r, slices_Index_int_int.l0 k L a (L.length : Int) (i : Int) = some r ∧ (decide (r ≥ 0) = (L.drop i).contains a) := by
  intro d
  induction d with
  | zero =>
    intro k i h1 hd hk
    obtain ⟨k, rfl⟩ : ∃ m, k = m + 1 := ⟨k - 1, by omega⟩
    refine ⟨-1, ?_, ?_⟩
    · simp only [slices_Index_int_int.l0]
      rw [if_neg (by omega)]
    · rw [List.drop_of_length_le (by omega)]; rfl
  | succ d ih =>
    intro k i h1 hd hk
    obtain ⟨k, rfl⟩ : ∃ m, k = m + 1 := ⟨k - 1, by omega⟩
    have hlt : i < L.length := by omega
    simp only [slices_Index_int_int.l0]
    rw [if_pos (by omega), if_pos (by omega), if_pos (by omega)]
    have hr : rd L (i : Int) = L[i] := by
      unfold rd
      rw [Int.toNat_natCast, List.getD_eq_getElem?_getD, List.getElem?_eq_getElem hlt]; rfl
    rw [hr, List.drop_eq_getElem_cons hlt]
    by_cases he : a = L[i]
    · rw [if_pos he]
      exact ⟨_, rfl, by rw [decide_eq_true (by omega), List.contains_cons, he]; simp⟩
    · rw [if_neg he]
      have e : wrap64 ((i : Int) + 1) = ((i + 1 : Nat) : Int) := by unfold wrap64; omega
      rw [e]
      obtain ⟨r, h2, h3⟩ := ih k (i + 1) (by omega) (by omega) (by omega)
      refine ⟨r, h2, ?_⟩
      rw [h3, List.contains_cons]
      have : (a == L[i]) = false := by simpa using he
      rw [this, Bool.false_or]
theorem contains_pure (L : List Int) (a : Int) (hL : L.length ≤ 1000000000000) : slices_Contains_int_int.f (L.length + 1) L a = some (L.contains a) := by
  obtain ⟨r, h1, h2⟩ := index_go L a hL L.length (L.length + 1) 0 (Nat.zero_le _) (by omega) (by omega)
  unfold slices_Contains_int_int.f slices_Index_int_int.f
  have h1' : slices_Index_int_int.l0 (L.length + 1) L a (L.length : Int) 0 = some r := h1
  rw [h1', Option.bind_some, h2, List.drop_zero]
theorem all_small {l : List S24} (h : (l.all fun c => decide (c.f2.length ≤ 1000000000000)) = true) (i : Nat) (hi : i < l.length) : (rd_T24 l i).f2.length ≤ 1000000000000 := by
  have q := of_decide_eq_true (List.all_eq_true.1 h l[i] (List.getElem_mem hi))
  have e : rd_T24 l (i : Int) = l[i] := by
    unfold rd_T24
    rw [Int.toNat_natCast, List.getD_eq_getElem?_getD, List.getElem?_eq_getElem hi]; rfl
  rw [e]; exact q
set_option maxRecDepth 100000 in
theorem is41 (f0 f1 f2 f3 f4 : Value) (A2 : Option Addr) (c2 : Nat) (L : List Int) (a1 : Int) (hf : f2 = .slice A2 L.length c2) {w0 : World} (hC : (Kd.int .i64).C w0 A2 L.length L) (hl : L.length ≤ c2) (hs : L.length ≤ 1000000000000) (Bp : Nat) (w : World) (hp : w.cell? ⟨Bp, 0, none⟩ = some (.int .i64 a1)) (hw : w0 = w := by rfl) :
    Calls Try.prog 41 #[.agg #[f0, f1, f2, f3, f4], .pointer (some ⟨Bp, 0, none⟩)] w fun e w' => e = .returned (.bool (L.contains a1)) ∧ Below w.heap.size w w' := by
  subst hf
  subst hw
  have hlt := World.block_lt_of_cell? w0 _ hp
  obtain ⟨b, hb⟩ : ∃ b, b = L.contains a1 := ⟨_, rfl⟩
  rw [← hb]
  have hc := slices_Contains_int_int.calls (L.length + 1) A2 c2 L a1 b (w0.alloc (.cells #[f0, f1, .slice A2 L.length c2, f3, f4] 24)) (Kd.C_alloc hC _) hl (by rw [hb]; exact contains_pure L a1 hs)
  have HC := Lib.hid hc
  clear hc hb
  go_enter Try.func41, Try.ntmps41
  go_wp2_with (go_at_call 42; go_must (refine (HC.out).mono ?_; rintro e w3 ⟨rfl, hd⟩; (have HD := Lib.hid hd); (clear hd)))
  go_ret
  exact ⟨rfl, ((Below.refl _ _).alloc (Nat.le_refl _) _).trans ((HD.out.below).mono (by simp))⟩
set_option maxRecDepth 100000 in
set_option maxHeartbeats 1000000 in
theorem channel_ToPort.calls (A0_0 : Option Addr) (c0_0 : Nat) (l0_0 : List (S71)) (A0_1 : Option Addr) (c0_1 : Nat) (l0_1 : List (S47)) (A0_2 : Option Addr) (c0_2 : Nat) (l0_2 : List (S24)) (a1 : Int) (r : Int) (w : World) (hr0_0 : Kd.C k71 w A0_0 l0_0.length l0_0) (hc0_0 : l0_0.length ≤ c0_0) (hr0_1 : Kd.C k47 w A0_1 l0_1.length l0_1) (hc0_1 : l0_1.length ≤ c0_1) (hr0_2 : Kd.C k24 w A0_2 l0_2.length l0_2) (hc0_2 : l0_2.length ≤ c0_2) (h : channel_ToPort.f l0_0 l0_1 l0_2 a1 = some r) :
    Calls Try.prog 23 #[.agg #[.slice A0_0 l0_0.length c0_0, .slice A0_1 l0_1.length c0_1, .slice A0_2 l0_2.length c0_2], .int .i64 a1] w fun e w' => e = .returned (.int .i64 r) ∧ Below w.heap.size w w' := by
  unfold channel_ToPort.f at h
  split at h
  case isFalse => cases h
  rename_i hlen
  obtain ⟨hlen, hall⟩ := hlen
  injection h with h
  by_cases ha : a1 < 1
  · rw [if_pos ha] at h
    subst h
    go_enter Try.func23, Try.ntmps23
    go_wp2
    go_ret
    exact ⟨rfl, ((Below.refl _ _).alloc (Nat.le_refl _) _).alloc (by simp) _⟩
  · rw [if_neg ha] at h
    obtain ⟨W, hW⟩ : ∃ W : World, W = (((w.alloc (.cells #[.slice A0_0 l0_0.length c0_0, .slice A0_1 l0_1.length c0_1, .slice A0_2 l0_2.length c0_2] 34)).alloc (.cells #[.int .i64 a1] 3)).alloc (.cells #[.slice A0_0 l0_0.length c0_0, .slice A0_1 l0_1.length c0_1, .slice A0_2 l0_2.length c0_2] 34)).alloc (.cells #[.func (.func 41) #[] #[.pointer (some ⟨w.heap.size + 1, 0, none⟩)]] 50) := ⟨_, rfl⟩
    have hB : Below w.heap.size w W := by rw [hW]; exact ((((Below.refl _ _).alloc (Nat.le_refl _) _).alloc (by simp) _).alloc (by simp; omega) _).alloc (by simp; omega) _
    have hp : W.cell? ⟨w.heap.size + 1, 0, none⟩ = some (.int .i64 a1) := by
      rw [hW, World.cell?_alloc_past _ _ _ (by simp), World.cell?_alloc_past _ _ _ (by simp), World.cell?_alloc_at _ _ _ _ (by simp)]; rfl
    have hx : W.cell? ⟨w.heap.size + 2, 2, none⟩ = some (.slice A0_2 l0_2.length c0_2) := by
      rw [hW, World.cell?_alloc_past _ _ _ (by simp), World.cell?_alloc_at _ _ _ _ (by simp)]; rfl
    have hi : W.cell? ⟨w.heap.size + 3, 0, none⟩ = some (.func (.func 41) #[] #[.pointer (some ⟨w.heap.size + 1, 0, none⟩)]) := by
      rw [hW, World.cell?_alloc_at _ _ _ _ (by simp)]; rfl
    have hsz : W.heap.size = w.heap.size + 4 := by rw [hW]; simp
    have hf := first41 (w.heap.size + 2) (w.heap.size + 3) (w.heap.size + 1) l0_2.length c0_2 A0_2 l0_2 (fun i => (rd_T24 l0_2 i).f2.contains a1) hlen W (Kd.C_below hr0_2 hB)
      (fun W' hW' i hi A2 c2 hC hl => is41 _ _ _ _ _ A2 c2 _ a1 rfl hC hl (all_small hall i hi) _ W' ((hW'.cell (p := ⟨w.heap.size + 1, 0, none⟩) (by show w.heap.size + 1 < W.heap.size; omega)).trans hp)) (by omega) (by omega) hx hi
    rw [h] at hf
    have HF := Lib.hid hf
    have HW := Lib.hid hW
    have HB := Lib.hid hB
    clear hf hW hp hx hi hB h
    go_enter Try.func23, Try.ntmps23
    go_wp2_with (first | (go_at_call 40; go_must (refine (numbers_c _ _ _ _ _ _).mono ?_; rintro e w3 ⟨rfl, rfl⟩)) | (go_at_call 39; go_must (rw [← HW.out]; refine (HF.out).mono ?_; rintro e w4 ⟨rfl, hb4⟩)))
    go_ret
    exact ⟨rfl, HB.out.trans (hb4.mono HB.out.size)⟩
end Go.Proofs.Ytjnnmgjpnbfhlaa.POnce
