import Derived.Test.YtjnnmgjpnbfhlaaGreatDoorCeL2
import Derived.Test.YtjnnmgjpnbfhlaaGreatDoorCeC10
namespace Go.Proofs.YtjnnmgjpnbfhlaaGreatDoor.L
open Go Go.Lift
set_option linter.unusedVariables false
set_option linter.unusedSimpArgs false
set_option maxRecDepth 100000

/-- What the law needs of an image and of the fuel. -/
structure Fit (k : Nat) (x : IM) : Prop where
  sane : sane x
  to8 : ∀ c, c ∈ x.2.2.1 → c.2.2.1.length * 8 ≤ 140737488355328
  kto : ∀ c, c ∈ x.2.2.1 → c.2.2.1.length + 1 < k
  kch : x.2.2.1.length + 1 < k
  k2 : 2 < k
theorem toN_nil {x : IM} {c : CH} (h : c.2.2.1.length = 0) : toN x c = [0] := by
  unfold toN
  rw [if_pos h]
  have e : ([0] : List Int).mergeSort (fun a b => decide (a ≤ b)) = [0] := List.mergeSort_singleton _
  rw [e]; rfl
theorem d5_eq {k : Nat} {x : IM} (hs : sane x) (t : Int) : d5 k (x, (t, ())) = some ((listN (outB x t) 0 x.2.2.1, ()), ()) := if_pos hs
theorem d6_eq {k : Nat} {x : IM} (hs : sane x) (t : Int) : d6 k (x, (t, ())) = some ((listN (inlB x t) 0 x.2.2.1, ()), ()) := if_pos hs
theorem d12_eq {k : Nat} {x : IM} (hs : sane x) (t : Int) : d12 k (x, (t, ())) = some ((if t < 1 then 0 else findN (fun c => c.2.1 == t) 0 x.2.2.1, ()), ()) := if_pos hs
theorem d13_eq {k : Nat} {x : IM} (hs : sane x) (t : Int) : d13 k (x, (t, ())) = some ((if t < 1 then 0 else findN (fun c => c.2.2.1.any (fun u => u == t)) 0 x.2.2.1, ()), ()) := if_pos hs
theorem has_at {k : Nat} {x : IM} (h : Fit k x) (p : CH → Bool) (j : Nat) (hj : j < x.2.2.1.length) : d10 k (listN p 0 x.2.2.1, (((j + 1 : Nat) : Int), ())) = some ((p x.2.2.1[j], ()), ()) := by
  have hl := listN_len p x.2.2.1 0
  have := h.sane.1
  have := h.kch
  rw [d10_eq k _ _ (by omega) (by omega)]
  have := listN_has p x.2.2.1 0 j hj
  rw [show 0 + j + 1 = j + 1 by omega] at this
  rw [this]
theorem ends_loop {k0 : Nat} {x : IM} (h : Fit k0 x) (j : Nat) (hj : j < x.2.2.1.length) : ∀ (m i k : Nat), i + m = x.2.2.1[j].2.2.1.length → m < k →
    loopN (d8_L3 k0 (d8_K1 k0)) k ((x, (toN x x.2.2.1[j], (x.2.2.1[j], ()))), ((i : Int), (((j + 1 : Nat) : Int), ()))) = some ((true, ()), ()) := by
  have hm := List.getElem_mem hj
  have ht := h.kto _ hm
  have ht8 := h.to8 _ hm
  have htl := toN_len x x.2.2.1[j]
  intro m
  induction m with
  | zero =>
    intro i k hi hk
    obtain ⟨k, rfl⟩ : ∃ k', k = k' + 1 := ⟨k - 1, by omega⟩
    simp only [loopN, d8_L3, lt, dnlt (show x.2.2.1[j].2.2.1.length ≤ i by omega), Bool.false_eq_true, if_false, d8_K1]
    by_cases h0 : x.2.2.1[j].2.2.1.length = 0
    · have e : decide (((x.2.2.1[j].2.2.1.length : Nat) : Int) > 0) = false := decide_eq_false (by omega)
      rw [toN_nil h0, e]
      simp only [same0 k0 h.k2]
      rfl
    · have e : decide (((x.2.2.1[j].2.2.1.length : Nat) : Int) > 0) = true := decide_eq_true (by omega)
      rw [e]; rfl
  | succ m ih =>
    intro i k hi hk
    obtain ⟨k, rfl⟩ : ∃ k', k = k' + 1 := ⟨k - 1, by omega⟩
    have h1 : i < x.2.2.1[j].2.2.1.length := by omega
    have hih := ih (i + 1) k (by omega) (by omega)
    have hany : x.2.2.1[j].2.2.1.any (fun u => partN x u == partN x x.2.2.1[j].2.2.1[i]) = true := List.any_eq_true.2 ⟨_, List.getElem_mem h1, by simp⟩
    have e1 : d10 k0 (toN x x.2.2.1[j], (partN x x.2.2.1[j].2.2.1[i], ())) = some ((true, ()), ()) := by
      rw [d10_eq k0 _ _ (by omega) (by omega), toN_any, if_neg (by omega), hany]
    simp only [loopN, d8_L3, lt, shr, dlt h1, dge0, Bool.and_self, if_true, Int.toNat_natCast, getD_mem h1, d24_eq k0 x _ h.sane.2.1, Option.bind_some, e1, d8_K2, wr1 (show i < 4611686018427387904 by omega), hih, d6_eq h.sane]
    cases hp : decide (partN x x.2.2.1[j].2.2.1[i] > 0) with
    | false => simp
    | true =>
      have e2 : inlB x (partN x x.2.2.1[j].2.2.1[i]) x.2.2.1[j] = true := by
        simp only [inlB, hp, hany, Bool.and_self]
      simp only [Bool.not_true, beq_self_eq_true, Bool.and_self, if_true, Option.bind_some, has_at h _ j hj, e2, Bool.false_eq_true, if_false]
theorem d8_eq {k : Nat} {x : IM} (h : Fit k x) (j : Nat) (hj : j < x.2.2.1.length) : d8 k (x, (((j + 1 : Nat) : Int), ())) = some ((true, ()), ()) := by
  have hm := List.getElem_mem hj
  have ht := h.kto _ hm
  have ht8 := h.to8 _ hm
  have htl := toN_len x x.2.2.1[j]
  have hs1 := h.sane.1
  have e3 : IntKind.wrap .i64 (((j + 1 : Nat) : Int) - 1) = (j : Int) := by rw [wrap_id (by omega) (by omega)]; omega
  have z0 : ((0 : Int) != 0) = false := rfl
  have h9 := d9_eq k x h.sane.2.1 j hj (by omega) ht8 ht
  have h7 := d7_eq k (toN x x.2.2.1[j]) (by omega) (by omega) (toN_lt x x.2.2.1[j])
  have nn : (partN x x.2.2.1[j].2.1 != partN x x.2.2.1[j].2.1) = false := by simp
  have hl := ends_loop h j hj x.2.2.1[j].2.2.1.length 0 k (by omega) (by omega)
  simp only [d8, lt, shr, e3, dge0, dlt hj, Bool.and_self, if_true, Int.toNat_natCast, getD_mem hj, h9, Option.bind_some, z0, d24_eq k x _ h.sane.2.1, nn, h7, Bool.false_eq_true, if_false, beq_self_eq_true, Bool.not_true, d5_eq h.sane, has_at h _ j hj]
  cases hp : decide (partN x x.2.2.1[j].2.1 > 0) with
  | false =>
    simp only [Bool.false_eq_true, if_false]
    exact hl
  | true =>
    have e2 : outB x (partN x x.2.2.1[j].2.1) x.2.2.1[j] = true := by simp [outB, hp]
    simp only [beq_self_eq_true, Bool.and_self, if_true, Option.bind_some, has_at h _ j hj, e2, Bool.not_true, Bool.false_eq_true, if_false]
    exact hl
end Go.Proofs.YtjnnmgjpnbfhlaaGreatDoor.L
