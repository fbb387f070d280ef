import Derived.Test.YtlagcpfboljhnaaWhO
import Derived.Lib.ItoaNum
namespace Go.Proofs.Ytlagcpfboljhnaa.L
open Go Go.Lift
set_option linter.unusedVariables false
set_option linter.unusedSimpArgs false
/-! ### Levels and their digits -/
theorem pow64 (l : Nat) : 64 ^ l = 2 ^ (6 * l) := by rw [Nat.pow_mul]
theorem xor_div (a b k : Nat) : (a ^^^ b) / 2 ^ k = (a / 2 ^ k) ^^^ (b / 2 ^ k) := Nat.xor_div_two_pow
/-- What a level is. -/
def Lv (n t l : Nat) : Prop := t / 64 ^ (l + 1) = n / 64 ^ (l + 1) ∧ (l = 0 ∨ t / 64 ^ l ≠ n / 64 ^ l)
theorem xor0 {a b : Nat} : a ^^^ b = 0 ↔ a = b := by
  constructor
  · intro h
    refine Nat.eq_of_testBit_eq fun i => ?_
    have h1 : (a ^^^ b).testBit i = false := by rw [h]; exact Nat.zero_testBit i
    rw [Nat.testBit_xor] at h1
    simpa using h1
  · rintro rfl; simp
theorem lvl_spec (n t : Nat) (hn : n < 2 ^ 42) (ht : t < 2 ^ 42) : Lv n t (lvl n t) := by
  have hx : t ^^^ n < 2 ^ 42 := Nat.xor_lt_two_pow ht hn
  have hx64 : t ^^^ n < 2 ^ 64 := by omega
  unfold Lv
  by_cases h0 : t ^^^ n = 0
  · have : t = n := xor0.1 h0
    subst this
    refine ⟨rfl, .inl ?_⟩
    unfold lvl Lib.bitLen
    rw [h0, Lib.bitLenAux_zero]
  · obtain ⟨b1, b2, b3⟩ := Lib.bitLenAux_bounds 64 _ hx64 h0
    have hb : Lib.bitLen (t ^^^ n) = Lib.bitLenAux 64 (t ^^^ n) := rfl
    rw [← hb] at b1 b2 b3
    have e : lvl n t = (Lib.bitLen (t ^^^ n) - 1) / 6 := rfl
    constructor
    · rw [pow64]
      have h1 : t ^^^ n < 2 ^ (6 * (lvl n t + 1)) := Nat.lt_of_lt_of_le b3 (Nat.pow_le_pow_right (by omega) (by omega))
      have h2 : (t ^^^ n) / 2 ^ (6 * (lvl n t + 1)) = 0 := Nat.div_eq_of_lt h1
      rw [xor_div] at h2
      exact xor0.1 h2
    · refine .inr fun h => ?_
      rw [pow64] at h
      have h1 : (t ^^^ n) / 2 ^ (6 * lvl n t) = 0 := by rw [xor_div, h]; simp
      have h2 : 2 ^ (6 * lvl n t) ≤ t ^^^ n := Nat.le_trans (Nat.pow_le_pow_right (by omega) (by omega)) b2
      have := (Nat.div_eq_zero_iff).1 h1
      have hp : 0 < 2 ^ (6 * lvl n t) := Nat.pow_pos (by omega)
      omega
theorem div_more {a b i j : Nat} (h : a / 64 ^ i = b / 64 ^ i) (hij : i ≤ j) : a / 64 ^ j = b / 64 ^ j := by
  obtain ⟨d, rfl⟩ := Nat.exists_eq_add_of_le hij
  rw [Nat.pow_add, ← Nat.div_div_eq_div_mul, ← Nat.div_div_eq_div_mul, h]
theorem Lv.uniq {n t l l' : Nat} (h : Lv n t l) (h' : Lv n t l') : l = l' := by
  rcases Nat.lt_trichotomy l l' with hl | hl | hl
  · rcases h'.2 with h1 | h1
    · omega
    · exact absurd (div_more h.1 hl) h1
  · exact hl
  · rcases h.2 with h1 | h1
    · omega
    · exact absurd (div_more h'.1 hl) h1
theorem lvl_eq {n t l : Nat} (hn : n < 2 ^ 42) (ht : t < 2 ^ 42) (h : Lv n t l) : lvl n t = l := (lvl_spec n t hn ht).uniq h
theorem div_dig (t l : Nat) : t / 64 ^ l = 64 * (t / 64 ^ (l + 1)) + dig t l := by
  unfold dig
  rw [Nat.pow_succ, ← Nat.div_div_eq_div_mul]
  omega
theorem dig_lt (t l : Nat) : dig t l < 64 := Nat.mod_lt _ (by omega)
theorem lt_of_div {a b k : Nat} (h : a / k < b / k) : a < b := by
  rcases Nat.lt_or_ge a b with h1 | h1
  · exact h1
  · have := Nat.div_le_div_right (c := k) h1; omega
/-- A lower level comes first. -/
theorem lv_lt {n t1 t2 l1 l2 : Nat} (h1 : Lv n t1 l1) (h2 : Lv n t2 l2) (hn : n ≤ t2) (hl : l1 < l2) : t1 < t2 := by
  have e1 : t1 / 64 ^ l2 = n / 64 ^ l2 := div_more h1.1 hl
  have e2 : n / 64 ^ l2 ≤ t2 / 64 ^ l2 := Nat.div_le_div_right hn
  have e3 : t2 / 64 ^ l2 ≠ n / 64 ^ l2 := h2.2.resolve_left (by omega)
  exact lt_of_div (k := 64 ^ l2) (by omega)
/-- Within a level, a lower digit. -/
theorem dig_first {n t1 t2 l : Nat} (h1 : Lv n t1 l) (h2 : Lv n t2 l) (hd : dig t1 l < dig t2 l) : t1 < t2 := by
  have e1 := div_dig t1 l
  have e2 := div_dig t2 l
  rw [h1.1] at e1
  rw [h2.1] at e2
  exact lt_of_div (k := 64 ^ l) (by omega)
/-- A timer's digit is not below now's; above level 0 it is greater. -/
theorem dig_ge {n t l : Nat} (h : Lv n t l) (hn : n ≤ t) : dig n l ≤ dig t l ∧ (l = 0 ∨ dig n l < dig t l) := by
  have e1 := div_dig t l
  have e2 := div_dig n l
  rw [h.1] at e1
  have e3 : n / 64 ^ l ≤ t / 64 ^ l := Nat.div_le_div_right hn
  refine ⟨by omega, ?_⟩
  rcases h.2 with h2 | h2
  · exact .inl h2
  · exact .inr (by omega)
/-- now goes on: a timer keeps its slot, or lies in the slot at now's new digit. -/
theorem lv_move {n m t l : Nat} (h : Lv n t l) (h1 : n ≤ m) (h2 : m ≤ t) : t / 64 ^ (l + 1) = m / 64 ^ (l + 1) := by
  have e1 : n / 64 ^ (l + 1) ≤ m / 64 ^ (l + 1) := Nat.div_le_div_right h1
  have e2 : m / 64 ^ (l + 1) ≤ t / 64 ^ (l + 1) := Nat.div_le_div_right h2
  have := h.1
  omega
theorem lv_stay {n m t l : Nat} (h : Lv n t l) (h1 : n ≤ m) (h2 : m ≤ t) (hd : dig t l ≠ dig m l) : Lv m t l := by
  refine ⟨lv_move h h1 h2, .inr fun e => hd ?_⟩
  unfold dig; rw [e]
theorem lv_zero {n m t : Nat} (h : Lv n t 0) (h1 : n ≤ m) (h2 : m ≤ t) : Lv m t 0 := ⟨lv_move h h1 h2, .inl rfl⟩
theorem lv_down {n m t l l' : Nat} (h : Lv n t l) (h1 : n ≤ m) (h2 : m ≤ t) (hl : 0 < l) (hd : dig t l = dig m l) (h' : Lv m t l') : l' < l := by
  have e1 := div_dig t l
  have e2 := div_dig m l
  rw [lv_move h h1 h2] at e1
  have e3 : t / 64 ^ l = m / 64 ^ l := by omega
  rcases Nat.lt_or_ge l' l with h3 | h3
  · exact h3
  · rcases h'.2 with h4 | h4
    · omega
    · exact absurd (div_more e3 h3) h4
theorem dig_now {n t l : Nat} (h : Lv n t l) (hd : dig t l = dig n l) (hn : n ≤ t) : l = 0 := by
  have := dig_ge h hn
  omega
theorem lv_self {n t : Nat} (h : Lv n t 0) (hd : dig t 0 = dig n 0) : t = n := by
  have e1 := div_dig t 0
  have e2 := div_dig n 0
  rw [h.1, hd] at e1
  simpa using e1.trans e2.symm
end Go.Proofs.Ytlagcpfboljhnaa.L
