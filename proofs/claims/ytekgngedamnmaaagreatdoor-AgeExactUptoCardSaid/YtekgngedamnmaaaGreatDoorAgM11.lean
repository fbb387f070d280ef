import Derived.Test.YtekgngedamnmaaaGreatDoorAgM10
namespace Go.Proofs.YtekgngedamnmaaaGreatDoor.L
open Go Go.Lift
set_option linter.unusedVariables false
set_option linter.unusedSimpArgs false
set_option maxRecDepth 100000

/-! ### the proving of the document's lives -/
theorem d15_eq (k : Nat) : d15 (k + 300) () = some ((true, ()), ()) := by kernel_rfl
theorem lives {k : Nat} (hk : 1048600 < k) : d15 k () = some ((true, ()), ()) := by
  obtain ⟨k', rfl⟩ : ∃ k', k = k' + 300 := ⟨k - 300, by omega⟩
  exact d15_eq k'

/-! ### ceilings -/
def ceilN (t p : Nat) : Nat := (t + (p - 1)) / p
theorem ceil_le {t p q : Nat} (hp : 0 < p) : ceilN t p ≤ q ↔ t ≤ q * p := by
  unfold ceilN
  rw [← Nat.lt_succ_iff, Nat.div_lt_iff_lt_mul hp, Nat.succ_mul]
  omega
theorem ceil_mono {t u p : Nat} (hp : 0 < p) (h : t ≤ u) : ceilN t p ≤ ceilN u p :=
  (ceil_le hp).2 (Nat.le_trans h ((ceil_le hp).1 (Nat.le_refl _)))
theorem ceil_add {t u p : Nat} (hp : 0 < p) : ceilN (t + u) p ≤ ceilN t p + ceilN u p := by
  rw [ceil_le hp, Nat.add_mul]
  have a := (ceil_le (t := t) (q := ceilN t p) hp).1 (Nat.le_refl _)
  have b := (ceil_le (t := u) (q := ceilN u p) hp).1 (Nat.le_refl _)
  omega
theorem ceil_zero {p : Nat} (hp : 0 < p) : ceilN 0 p = 0 := Nat.le_zero.1 ((ceil_le hp).2 (Nat.zero_le _))
theorem ceil_succ {z p : Nat} (hp : 0 < p) : ceilN (z + 1) p = z / p + 1 := by
  unfold ceilN
  rw [show z + 1 + (p - 1) = z + p by omega, Nat.add_div_right _ hp]
theorem ceil_step {z p : Nat} (hp : 0 < p) : ceilN (z + 1) p = ceilN z p + (if z % p = 0 then 1 else 0) := by
  rw [ceil_succ hp]
  have hd := Nat.div_add_mod z p
  by_cases h : z % p = 0
  · rw [if_pos h]
    have : ceilN z p = z / p := by
      apply Nat.le_antisymm
      · rw [ceil_le hp, Nat.mul_comm]; omega
      · unfold ceilN; exact Nat.div_le_div_right (by omega)
    rw [this]
  · rw [if_neg h]
    have : ceilN z p = z / p + 1 := by
      cases z with
      | zero => rw [Nat.zero_mod] at h; exact absurd rfl h
      | succ y =>
        rw [ceil_succ hp]
        have e1 : (y + 1) / p = y / p := by
          rw [Nat.succ_div, if_neg (fun hd => h (Nat.mod_eq_zero_of_dvd hd)), Nat.add_zero]
        rw [e1]
    rw [this, Nat.add_zero]

/-! ### rate -/
def rate (p : Nat) (ticks : Int) : Int := ((ceilN ticks.toNat p : Nat) : Int)
theorem d121_0 (k : Nat) (p : Nat) (h1 : 1 ≤ p) : d121 k (0, ((p : Int), (0, ()))) = some ((0, (true, ())), ()) := by
  have c1 : decide ((p : Int) < 1) = false := decide_eq_false (by omega)
  simp only [d121, lt, c1, Int.lt_irrefl, decide_false, Bool.false_eq_true, if_false, Int.le_refl, decide_true, if_true]
theorem d54_eq (k : Nat) (c : CH) (p : Nat) (h1 : 1 ≤ p) (h2 : p ≤ 1048576) (hp : c.2.2.2.2.1 = (p : Int)) (ticks : Int) (t1 : 0 ≤ ticks) (t2 : ticks ≤ 1099511627776) : d54 k (c, (ticks, ())) = some ((rate p ticks, (0, ())), ()) := by
  have g1 : decide (ticks < 0) = false := decide_eq_false (by omega)
  have g2 : decide (ticks > 1099511627776) = false := decide_eq_false (by omega)
  have c1 : decide ((p : Int) < 1) = false := decide_eq_false (by omega)
  have cz : ((p : Int) == 0) = false := by rw [beq_eq_false_iff_ne]; omega
  simp only [d54, lt, g1, g2, hp, d106, c1, d121_0 k p h1, cz, Option.bind_some, Int.lt_irrefl, decide_false, Bool.false_eq_true, if_false, Bool.not_true, Bool.not_false, if_true]
  by_cases h0 : ticks ≤ 0
  · obtain rfl : ticks = 0 := by omega
    simp only [Int.le_refl, decide_true, if_true, Option.bind_some]
    rw [show rate p 0 = 0 by unfold rate; rw [show (0 : Int).toNat = 0 from rfl, ceil_zero (by omega)]; rfl]
  · obtain ⟨z, hz⟩ : ∃ z : Nat, ticks = ((z + 1 : Nat) : Int) := ⟨(ticks - 1).toNat, by omega⟩
    have g3 : decide (ticks ≤ 0) = false := decide_eq_false h0
    simp only [g3, Bool.false_eq_true, if_false, Option.bind_some]
    rw [wrap_id (z := ticks - 1) (by omega) (by omega), wrap_id (z := ticks - 1 - 0) (by omega) (by omega)]
    have e1 : ticks - 1 - 0 = (z : Int) := by omega
    have e2 : Int.tdiv (z : Int) (p : Int) = ((z / p : Nat) : Int) := by rfl
    have e3 : z / p ≤ z := Nat.div_le_self _ _
    have e4 : rate p ticks = ((z / p : Nat) : Int) + 1 := by
      unfold rate
      rw [hz, Int.toNat_natCast, ceil_succ (by omega)]
      rfl
    rw [e1, e2, e4]
    generalize z / p = q at e3 ⊢
    rw [wrap_id (z := ((q : Nat) : Int)) (by omega) (by omega), wrap_id (by omega) (by omega)]

/-! ### the count of releases -/
end Go.Proofs.YtekgngedamnmaaaGreatDoor.L
