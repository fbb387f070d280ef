import Derived.Test.YtekgngedamnmaaaGreatDoorAgM11
namespace Go.Proofs.YtekgngedamnmaaaGreatDoor.L
open Go Go.Lift
set_option linter.unusedVariables false
set_option linter.unusedSimpArgs false
set_option maxRecDepth 100000

theorem chansB_at (ps : List PO) : ∀ (cs bef : List CH), chansB ps bef cs = true → ∀ i (h : i < cs.length), chanB ps (bef ++ cs.take i) cs[i] = true := by
  intro cs
  induction cs with
  | nil => intro bef _ i h; exact absurd h (Nat.not_lt_zero _)
  | cons c cs ih =>
    intro bef hb i h
    rw [chansB, Bool.and_eq_true] at hb
    cases i with
    | zero => simpa using hb.1
    | succ i =>
      have := ih (bef ++ [c]) hb.2 i (by simpa using h)
      simpa [List.append_assoc] using this
theorem CheckOk.chan {im : IM} (h : CheckOk im) (i : Nat) (hi : i < im.2.2.1.length) : chanB im.2.1 (im.2.2.1.take i) im.2.2.1[i] = true := by
  have := chansB_at im.2.1 im.2.2.1 [] h.chans i hi
  simpa using this
theorem CheckOk.tos {im : IM} (h : CheckOk im) (i : Nat) (hi : i < im.2.2.1.length) : ∀ t, t ∈ im.2.2.1[i].2.2.1 → wi t 1 (im.2.1.length : Int) = true := by
  have := h.chan i hi
  simp only [chanB, Bool.and_eq_true] at this
  exact fun t ht => (toB_mem this.1.2 t ht).1
/-- A queuing channel with a sender has a phase and a period. -/
theorem CheckOk.queue {im : IM} (h : CheckOk im) (i : Nat) (hi : i < im.2.2.1.length) (hk : im.2.2.1[i].1 = 1) (hn : im.2.2.1[i].2.1 ≠ 0) : ∃ f p : Nat, im.2.2.1[i].2.2.2.1 = (f : Int) ∧ im.2.2.1[i].2.2.2.2.1 = (p : Int) ∧ 1 ≤ p ∧ p ≤ 1048576 ∧ f < p := by
  have := h.chan i hi
  simp only [chanB, Bool.and_eq_true] at this
  have hr := this.2
  have e1 : (im.2.2.1[i].1 == 1 && im.2.2.1[i].2.1 != 0) = true := by simp [hk, hn]
  simp only [rateB, e1, if_true, Bool.and_eq_true, wi_iff] at hr
  exact ⟨im.2.2.1[i].2.2.2.1.toNat, im.2.2.1[i].2.2.2.2.1.toNat, by omega, by omega, by omega, by omega, by omega⟩

theorem ne0 {e : Int} (h : e ≠ 0) : (e != 0) = true := by simpa using h
theorem xr {x : Int} {n : Nat} (h1 : ¬ x < 1) (h2 : ¬ x > (n : Int)) (hn : n ≤ 64) : IntKind.wrap .i64 (x - 1) = x - 1 ∧ (decide ((0 : Int) ≤ x - 1) && decide (x - 1 < (n : Int))) = true := by
  refine ⟨wrap_id (by omega) (by omega), ?_⟩
  have a : decide ((0 : Int) ≤ x - 1) = true := decide_eq_true (by omega)
  have b : decide (x - 1 < (n : Int)) = true := decide_eq_true (by omega)
  rw [a, b]; rfl

/-! ### d13: the age at rest -/
def chan (im : IM) (x : Int) : CH := im.2.2.1.getD (x - 1).toNat ch0
/-! ### AgeFresh -/
end Go.Proofs.YtekgngedamnmaaaGreatDoor.L
