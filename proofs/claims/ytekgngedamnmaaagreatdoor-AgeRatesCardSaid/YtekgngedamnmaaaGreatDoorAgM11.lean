import Derived.Test.YtekgngedamnmaaaGreatDoorAgM10
namespace Go.Proofs.YtekgngedamnmaaaGreatDoor.L
open Go Go.Lift
set_option linter.unusedVariables false
set_option linter.unusedSimpArgs false
set_option maxRecDepth 100000

/-! ### the proving of the document's lives -/
theorem d15_eq (k : Nat) : d15 (k + 300) () = some ((true, ()), ()) := by kernel_rfl
theorem lives {k : Nat} (hk : 1048600 < k) : d15 k () = some ((true, ()), ()) := by
  obtain ⟨k', rfl⟩ : ∃ k', k = k' + 300 := ⟨k - 300, by omega⟩
  exact d15_eq k'

/-! ### ceilings -/
def ceilN (t p : Nat) : Nat := (t + (p - 1)) / p
theorem ceil_le {t p q : Nat} (hp : 0 < p) : ceilN t p ≤ q ↔ t ≤ q * p := by
  unfold ceilN
  rw [← Nat.lt_succ_iff, Nat.div_lt_iff_lt_mul hp, Nat.succ_mul]
  omega
theorem ceil_mono {t u p : Nat} (hp : 0 < p) (h : t ≤ u) : ceilN t p ≤ ceilN u p :=
  (ceil_le hp).2 (Nat.le_trans h ((ceil_le hp).1 (Nat.le_refl _)))
theorem ceil_add {t u p : Nat} (hp : 0 < p) : ceilN (t + u) p ≤ ceilN t p + ceilN u p := by
  rw [ceil_le hp, Nat.add_mul]
  have a := (ceil_le (t := t) (q := ceilN t p) hp).1 (Nat.le_refl _)
  have b := (ceil_le (t := u) (q := ceilN u p) hp).1 (Nat.le_refl _)
  omega
theorem ceil_zero {p : Nat} (hp : 0 < p) : ceilN 0 p = 0 := Nat.le_zero.1 ((ceil_le hp).2 (Nat.zero_le _))
theorem ceil_succ {z p : Nat} (hp : 0 < p) : ceilN (z + 1) p = z / p + 1 := by
  unfold ceilN
  rw [show z + 1 + (p - 1) = z + p by omega, Nat.add_div_right _ hp]
theorem ceil_step {z p : Nat} (hp : 0 < p) : ceilN (z + 1) p = ceilN z p + (if z % p = 0 then 1 else 0) := by
  rw [ceil_succ hp]
  have hd := Nat.div_add_mod z p
  by_cases h : z % p = 0
  · rw [if_pos h]
    have : ceilN z p = z / p := by
      apply Nat.le_antisymm
      · rw [ceil_le hp, Nat.mul_comm]; omega
      · unfold ceilN; exact Nat.div_le_div_right (by omega)
    rw [this]
  · rw [if_neg h]
    have : ceilN z p = z / p + 1 := by
      cases z with
      | zero => rw [Nat.zero_mod] at h; exact absurd rfl h
      | succ y =>
        rw [ceil_succ hp]
        have e1 : (y + 1) / p = y / p := by
          rw [Nat.succ_div, if_neg (fun hd => h (Nat.mod_eq_zero_of_dvd hd)), Nat.add_zero]
        rw [e1]
    rw [this, Nat.add_zero]

/-! ### rate -/
def rate (p : Nat) (ticks : Int) : Int := ((ceilN ticks.toNat p : Nat) : Int)
theorem d121_0 (k : Nat) (p : Nat) (h1 : 1 ≤ p) : d121 k (0, ((p : Int), (0, ()))) = some ((0, (true, ())), ()) := by
  have c1 : decide ((p : Int) < 1) = false := decide_eq_false (by omega)
  simp only [d121, lt, c1, Int.lt_irrefl, decide_false, Bool.false_eq_true, if_false, Int.le_refl, decide_true, if_true]
theorem d54_eq (k : Nat) (c : CH) (p : Nat) (h1 : 1 ≤ p) (h2 : p ≤ 1048576) (hp : c.2.2.2.2.1 = (p : Int)) (ticks : Int) (t1 : 0 ≤ ticks) (t2 : ticks ≤ 1099511627776) : d54 k (c, (ticks, ())) = some ((rate p ticks, (0, ())), ()) := by
  have g1 : decide (ticks < 0) = false := decide_eq_false (by omega)
  have g2 : decide (ticks > 1099511627776) = false := decide_eq_false (by omega)
  have c1 : decide ((p : Int) < 1) = false := decide_eq_false (by omega)
  have cz : ((p : Int) == 0) = false := by rw [beq_eq_false_iff_ne]; omega
  simp only [d54, lt, g1, g2, hp, d106, c1, d121_0 k p h1, cz, Option.bind_some, Int.lt_irrefl, decide_false, Bool.false_eq_true, if_false, Bool.not_true, Bool.not_false, if_true]
  by_cases h0 : ticks ≤ 0
  · obtain rfl : ticks = 0 := by omega
    simp only [Int.le_refl, decide_true, if_true, Option.bind_some]
    rw [show rate p 0 = 0 by unfold rate; rw [show (0 : Int).toNat = 0 from rfl, ceil_zero (by omega)]; rfl]
  · obtain ⟨z, hz⟩ : ∃ z : Nat, ticks = ((z + 1 : Nat) : Int) := ⟨(ticks - 1).toNat, by omega⟩
    have g3 : decide (ticks ≤ 0) = false := decide_eq_false h0
    simp only [g3, Bool.false_eq_true, if_false, Option.bind_some]
    rw [wrap_id (z := ticks - 1) (by omega) (by omega), wrap_id (z := ticks - 1 - 0) (by omega) (by omega)]
    have e1 : ticks - 1 - 0 = (z : Int) := by omega
    have e2 : Int.tdiv (z : Int) (p : Int) = ((z / p : Nat) : Int) := by rfl
    have e3 : z / p ≤ z := Nat.div_le_self _ _
    have e4 : rate p ticks = ((z / p : Nat) : Int) + 1 := by
      unfold rate
      rw [hz, Int.toNat_natCast, ceil_succ (by omega)]
      rfl
    rw [e1, e2, e4]
    generalize z / p = q at e3 ⊢
    rw [wrap_id (z := ((q : Nat) : Int)) (by omega) (by omega), wrap_id (by omega) (by omega)]

/-! ### the count of releases -/
def G (f p : Nat) (n : Int) : Nat := ceilN (n - (f : Int)).toNat p
theorem G_step {f p : Nat} (hp : 0 < p) (n : Int) : G f p (n + 1) = G f p n + (if (f : Int) ≤ n ∧ (n - (f : Int)).toNat % p = 0 then 1 else 0) := by
  unfold G
  by_cases h : (f : Int) ≤ n
  · obtain ⟨z, hz⟩ : ∃ z : Nat, n - (f : Int) = (z : Int) := ⟨(n - f).toNat, by omega⟩
    rw [show n + 1 - (f : Int) = ((z + 1 : Nat) : Int) by omega, hz, Int.toNat_natCast, Int.toNat_natCast, ceil_step hp]
    simp [h]
  · rw [show (n + 1 - (f : Int)).toNat = 0 by omega, show (n - (f : Int)).toNat = 0 by omega, if_neg (fun hh => h hh.1)]
    rfl
theorem G_le (f p : Nat) (hp : 0 < p) (n : Int) (h : 0 ≤ n) : (G f p n : Int) ≤ n := by
  unfold G
  have : ceilN (n - (f : Int)).toNat p ≤ (n - (f : Int)).toNat := (ceil_le hp).2 (Nat.le_mul_of_pos_right _ hp)
  omega
theorem d18_loop (c : CH) (f p : Nat) (hf : c.2.2.2.1 = (f : Int)) (hp : c.2.2.2.2.1 = (p : Int)) (f1 : f ≤ 1048576) (h1 : 1 ≤ p) (h2 : p ≤ 1048576) (until_ : Int) (u2 : until_ ≤ 1000000) : ∀ (m : Nat) (n : Int) (k : Nat) (a : Nat), 0 ≤ n → n + (m : Int) = until_ → m < k → (a : Int) ≤ n →
    loopN (d18_L4 d18_K1) k ((c, ()), (n, (((a : Nat) : Int), (until_, ())))) = some ((((a + (G f p until_ - G f p n) : Nat) : Int), ()), ()) := by
  intro m
  induction m with
  | zero =>
    intro n k a hn hm hk ha
    obtain ⟨k, rfl⟩ : ∃ k', k = k' + 1 := ⟨k - 1, by omega⟩
    have g : decide (n < until_) = false := decide_eq_false (by omega)
    have e : n = until_ := by omega
    simp only [loopN, d18_L4, lt, g, Bool.false_eq_true, if_false, d18_K1]
    rw [e, Nat.sub_self, Nat.add_zero]
  | succ m ih =>
    intro n k a hn hm hk ha
    obtain ⟨k, rfl⟩ : ∃ k', k = k' + 1 := ⟨k - 1, by omega⟩
    have g : decide (n < until_) = true := decide_eq_true (by omega)
    have hs := G_step (f := f) (p := p) (by omega) n
    have cz : ((p : Int) == 0) = false := by rw [beq_eq_false_iff_ne]; omega
    have mono : ∀ (j : Nat) (q : Int), G f p q ≤ G f p (q + (j : Int)) := by
      intro j q; unfold G; exact ceil_mono (by omega) (by omega)
    have m1 := mono m (n + 1)
    rw [show n + 1 + (m : Int) = until_ by omega] at m1
    simp only [loopN, d18_L4, lt, shr, g, if_true, hf, hp, cz, Bool.not_false, Bool.or_true, d18_K3, d18_K2]
    rw [wrap_id (z := n - (f : Int)) (by omega) (by omega), wrap_id (z := n + 1) (by omega) (by omega), wrap_id (z := (a : Int) + 1) (by omega) (by omega)]
    have key : (if decide (n ≥ (f : Int)) = true then Int.tmod (n - (f : Int)) (p : Int) == 0 else false) = decide ((f : Int) ≤ n ∧ (n - (f : Int)).toNat % p = 0) := by
      by_cases h : (f : Int) ≤ n
      · obtain ⟨z, hz⟩ : ∃ z : Nat, n - (f : Int) = (z : Int) := ⟨(n - f).toNat, by omega⟩
        rw [hz, Int.toNat_natCast, if_pos (decide_eq_true h), show Int.tmod (z : Int) (p : Int) = ((z % p : Nat) : Int) from rfl, Bool.eq_iff_iff]
        simp [h]
        omega
      · rw [if_neg (by simpa using h)]
        exact (decide_eq_false (fun hh => h hh.1)).symm
    rw [key]
    by_cases hc : (f : Int) ≤ n ∧ (n - (f : Int)).toNat % p = 0
    · rw [if_pos hc] at hs
      rw [if_pos (decide_eq_true hc)]
      have := ih (n + 1) k (a + 1) (by omega) (by omega) (by omega) (by omega)
      refine Eq.trans this ?_
      rw [show a + 1 + (G f p until_ - G f p (n + 1)) = a + (G f p until_ - G f p n) by omega]
    · rw [if_neg hc] at hs
      rw [if_neg (by simpa using hc)]
      have := ih (n + 1) k a (by omega) (by omega) (by omega) (by omega)
      refine Eq.trans this ?_
      rw [show G f p (n + 1) = G f p n by omega]
theorem d18_eq (k : Nat) (hk : 1048600 < k) (c : CH) (f p : Nat) (hf : c.2.2.2.1 = (f : Int)) (hp : c.2.2.2.2.1 = (p : Int)) (f1 : f ≤ 1048576) (h1 : 1 ≤ p) (h2 : p ≤ 1048576) (a ticks : Int) (a0 : 0 ≤ a) (t0 : 0 ≤ ticks) (u2 : a + ticks ≤ 1000000) :
    d18 k (c, (a, (a + ticks, ()))) = some ((((G f p (a + ticks) - G f p a : Nat) : Int), ()), ()) := by
  have := d18_loop c f p hf hp f1 h1 h2 (a + ticks) u2 ticks.toNat a k 0 a0 (by omega) (by omega) a0
  rw [Nat.zero_add] at this
  simp only [d18, shr]
  exact this
theorem count_le {f p : Nat} (hp : 0 < p) (a ticks : Int) (t0 : 0 ≤ ticks) : ((G f p (a + ticks) - G f p a : Nat) : Int) ≤ rate p ticks := by
  have e : (a + ticks - (f : Int)).toNat ≤ (a - (f : Int)).toNat + ticks.toNat := by omega
  have h1 := ceil_mono (p := p) hp e
  have h2 := ceil_add (t := (a - (f : Int)).toNat) (u := ticks.toNat) hp
  unfold rate G
  omega
theorem count_eq {f p : Nat} (hp : 0 < p) (ticks : Int) (t0 : 0 ≤ ticks) : ((G f p ((f : Int) + ticks) - G f p (f : Int) : Nat) : Int) = rate p ticks := by
  unfold rate G
  rw [show ((f : Int) + ticks - (f : Int)).toNat = ticks.toNat by omega, show ((f : Int) - (f : Int)).toNat = 0 by omega, ceil_zero hp, Nat.sub_zero]
theorem rate_mono {p : Nat} (hp : 0 < p) {t u : Int} (h : t ≤ u) : rate p t ≤ rate p u := by
  unfold rate
  have := ceil_mono (t := t.toNat) (u := u.toNat) (p := p) hp (by omega)
  omega
end Go.Proofs.YtekgngedamnmaaaGreatDoor.L
