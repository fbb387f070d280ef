import Derived.Test.YtekgngedamnmaaaGreatDoorAgM13
import Derived.Test.YtekgngedamnmaaaGreatDoorAgE
namespace Go.Proofs.YtekgngedamnmaaaGreatDoor.L
open Go Go.Lift
set_option linter.unusedVariables false
set_option linter.unusedSimpArgs false
set_option maxRecDepth 100000

/-- Check's answer, and the document's. -/
theorem both (k : Nat) (im : IM) (hf : Fits k im) : (CheckOk im ∧ d96 k (im, ()) = some ((0, (0, ())), ()) ∧ d14 k (im, ()) = some ((0, (0, ())), ())) ∨ (∃ e p q, e ≠ (0 : Int) ∧ d96 k (im, ()) = some ((e, (p, ())), ()) ∧ d14 k (im, ()) = some ((e, (q, ())), ())) := by
  rcases d96_err k im hf with ⟨a, b⟩ | ⟨a, e, p, he, b⟩
  · rcases d14_err k im hf with ⟨_, b'⟩ | ⟨a', _⟩
    · exact .inl ⟨a, b, b'⟩
    · exact absurd a a'
  · rcases d14_err k im hf with ⟨a', _⟩ | ⟨_, e', q, he', b'⟩
    · exact absurd a' a
    · rw [he.trans he'.symm] at b
      exact .inr ⟨e', p, q, by rw [he']; exact errI_ne a, b, b'⟩
/-- A channel that is of the kind asked for. -/
def gateB (im : IM) (x kd : Int) : Bool := !(if ((chan im x).1 != kd) = true then true else (if (kd == 1) = true then ((chan im x).2.1 == 0) else false))
theorem z0n : ((0 : Int) != 0) = false := rfl
theorem ecn (im : IM) (x : Int) : im.2.2.1.getD (x - 1).toNat (0, (0, (([] : List Int), (0, (0, ()))))) = chan im x := rfl
theorem d107_bad (k : Nat) (im : IM) (x kd e q : Int) (he : e ≠ 0) (h : d14 k (im, ()) = some ((e, (q, ())), ())) : d107 k (im, (x, (kd, ()))) = some ((ch0, (e, ())), ()) := by
  simp only [d107, lt, h, Option.bind_some, ne0 he, if_true]
theorem d107_out (k : Nat) (im : IM) (x kd : Int) (h : d14 k (im, ()) = some ((0, (0, ())), ())) (hx : x < 1 ∨ x > (im.2.2.1.length : Int)) : d107 k (im, (x, (kd, ()))) = some ((ch0, (2, ())), ()) := by
  simp only [d107, lt, h, Option.bind_some, z0n, Bool.false_eq_true, if_false]
  rcases hx with hx | hx
  · simp only [hx, decide_true, if_true]
  · simp only [hx, decide_true]
    by_cases h1 : x < 1
    · simp only [h1, decide_true, if_true]
    · simp only [h1, decide_false, Bool.false_eq_true, if_false, if_true]
theorem d107_in (k : Nat) (im : IM) (x kd : Int) (hc : CheckOk im) (h : d14 k (im, ()) = some ((0, (0, ())), ())) (x1 : ¬ x < 1) (x2 : ¬ x > (im.2.2.1.length : Int)) :
    d107 k (im, (x, (kd, ()))) = if gateB im x kd = true then some ((chan im x, (0, ())), ()) else some ((ch0, (2, ())), ()) := by
  obtain ⟨r1, r2⟩ := xr x1 x2 hc.nchans
  have hb : (if ((chan im x).1 != kd) = true then true else (if (kd == 1) = true then ((chan im x).2.1 == 0) else false)) = !gateB im x kd := by unfold gateB; rw [Bool.not_not]
  simp only [d107, lt, h, Option.bind_some, z0n, Bool.false_eq_true, if_false, x1, x2, decide_false, r1, r2, if_true, ecn, hb]
  cases gateB im x kd <;> simp

/-- A queuing channel that goes from a port. -/
theorem gate1 {im : IM} (hc : CheckOk im) (x : Int) (x1 : ¬ x < 1) (x2 : ¬ x > (im.2.2.1.length : Int)) (h : gateB im x 1 = true) : (chan im x).1 = 1 ∧ (chan im x).2.1 ≠ 0 ∧ wi (chan im x).2.1 1 (im.2.1.length : Int) = true ∧ ∃ f p : Nat, (chan im x).2.2.2.1 = (f : Int) ∧ (chan im x).2.2.2.2.1 = (p : Int) ∧ 1 ≤ p ∧ p ≤ 1048576 ∧ f < p := by
  have e1 : ((1 : Int) == 1) = true := rfl
  simp only [gateB, e1, if_true] at h
  cases h1 : ((chan im x).1 != 1) with
  | true => rw [h1] at h; simp at h
  | false =>
    rw [h1] at h
    cases h2 : ((chan im x).2.1 == 0) with
    | true => rw [h2] at h; simp at h
    | false =>
      have k1 : (chan im x).1 = 1 := by simpa using h1
      have k2 : (chan im x).2.1 ≠ 0 := by simpa using h2
      obtain ⟨i, hi, hci⟩ := getD_at x1 x2
      have hq := hc.queue i hi (by rw [← hci]; exact k1) (by rw [← hci]; exact k2)
      rw [← hci] at hq
      refine ⟨k1, k2, ?_, hq⟩
      have hch := hc.chan i hi
      rw [← hci] at hch
      simp only [chanB, Bool.and_eq_true] at hch
      have hfr := hch.1.1.2
      simp only [fromB, h2, Bool.false_eq_true, if_false, Bool.and_eq_true] at hfr
      exact hfr.1.1
theorem gate1n {im : IM} {x : Int} (h : gateB im x 1 = false) : (if ((chan im x).1 != 1) = true then true else ((chan im x).2.1 == 0)) = true := by
  have e1 : ((1 : Int) == 1) = true := rfl
  simp only [gateB, e1, if_true] at h
  revert h
  cases ((chan im x).1 != 1) <;> cases ((chan im x).2.1 == 0) <;> simp

/-- The messages' stay. -/
theorem p52 (k : Nat) (im : IM) (hf : Fits k im) (x : Int) : ∃ v : I2, d52 k (im, (x, ())) = some (v, ()) ∧ d57 k (im, (x, ())) = some (v, ()) := by
  have e1 : ((1 : Int) == 1) = true := rfl
  rcases both k im hf with ⟨hc, h96, h14⟩ | ⟨e, p, q, he, h96, h14⟩
  rotate_left
  · exact ⟨(0, (e, ())), by simp only [d52, d43x2, lt, h96, ne0 he, Option.bind_some, if_true], by simp only [d57, lt, d107_bad k im x 1 e q he h14, ne0 he, Option.bind_some, if_true]⟩
  by_cases x1 : x < 1
  · exact ⟨(0, (2, ())), by simp [d52, d43x2, lt, h96, x1], by simp [d57, lt, d107_out k im x 1 h14 (.inl x1)]⟩
  by_cases x2 : x > (im.2.2.1.length : Int)
  · exact ⟨(0, (2, ())), by simp [d52, d43x2, lt, h96, x1, x2], by simp [d57, lt, d107_out k im x 1 h14 (.inr x2)]⟩
  obtain ⟨r1, r2⟩ := xr x1 x2 hc.nchans
  cases hg : gateB im x 1 with
  | false =>
    have hn := gate1n hg
    refine ⟨(0, (2, ())), by simp only [d52, d43x2, lt, h96, x1, x2, r1, r2, ecn, z0n, e1, Option.bind_some, decide_false, decide_true, Bool.false_eq_true, if_false, if_true, hn], ?_⟩
    simp only [d57, lt, d107_in k im x 1 hc h14 x1 x2, hg, Bool.false_eq_true, if_false, Option.bind_some]
    simp
  | true =>
    obtain ⟨k1, k2, k3, _⟩ := gate1 hc x x1 x2 hg
    have n1 : ((chan im x).1 != 1) = false := by rw [k1]; rfl
    have n2 : ((chan im x).2.1 == 0) = false := by simpa using k2
    have hp := hc.nports
    refine ⟨(IntKind.wrap .i64 ((port im.2.1 (chan im x).2.1).2.2.2.2.1 * (chan im x).2.2.2.2.1), (0, ())), ?_, ?_⟩
    · simp only [d52, d43x2, d105, lt, h96, x1, x2, r1, r2, ecn, z0n, e1, n1, n2, Option.bind_some, decide_false, decide_true, Bool.false_eq_true, if_false, if_true, wrm k3 (by omega), inr k3]
      rfl
    · simp only [d57, lt, d107_in k im x 1 hc h14 x1 x2, hg, if_true, Option.bind_some, z0n, Bool.false_eq_true, if_false, wrm k3 (by omega), inr k3]
      rfl

/-- The count of a channel's ticks from its first on. -/
theorem d108_eq (k : Nat) (f p : Nat) (h1 : 1 ≤ p) (h2 : p ≤ 1048576) (hf : f < p) (ticks : Int) (t1 : 0 ≤ ticks) (t2 : ticks ≤ 1099511627776) :
    d108 k ((f : Int), ((p : Int), ((f : Int), (IntKind.wrap .i64 ((f : Int) + ticks), ())))) = some ((rate p ticks, (true, ())), ()) := by
  have c1 : decide ((p : Int) < 1) = false := decide_eq_false (by omega)
  have c2 : decide ((f : Int) < 0) = false := decide_eq_false (by omega)
  have cz : ((p : Int) == 0) = false := by rw [beq_eq_false_iff_ne]; omega
  rw [wrap_id (z := (f : Int) + ticks) (by omega) (by omega)]
  simp only [d108, lt, c1, c2, Bool.false_eq_true, if_false]
  by_cases h0 : ticks ≤ 0
  · obtain rfl : ticks = 0 := by omega
    rw [show decide ((f : Int) + 0 ≤ (f : Int)) = true from decide_eq_true (by omega)]
    rw [show rate p 0 = 0 by unfold rate; rw [show (0 : Int).toNat = 0 from rfl, ceil_zero (by omega)]; rfl]
    simp
  · obtain ⟨z, hz⟩ : ∃ z : Nat, ticks = ((z + 1 : Nat) : Int) := ⟨(ticks - 1).toNat, by omega⟩
    have g3 : decide ((f : Int) + ticks ≤ (f : Int)) = false := decide_eq_false (by omega)
    have g4 : decide ((f : Int) ≤ (f : Int)) = true := decide_eq_true (by omega)
    simp only [g3, g4, Bool.false_eq_true, if_false, d138, lt, if_true, Option.bind_some, cz, Bool.not_false]
    rw [wrap_id (z := (f : Int) + ticks - (f : Int)) (by omega) (by omega), wrap_id (z := (f : Int) + ticks - (f : Int) - 1) (by omega) (by omega)]
    have e1 : (f : Int) + ticks - (f : Int) - 1 = (z : Int) := by omega
    have e2 : Int.tdiv (z : Int) (p : Int) = ((z / p : Nat) : Int) := by rfl
    have e3 : z / p ≤ z := Nat.div_le_self _ _
    have e4 : rate p ticks = ((z / p : Nat) : Int) + 1 := by
      unfold rate
      rw [hz, Int.toNat_natCast, ceil_succ (by omega)]
      rfl
    rw [e1, e2, e4]
    generalize z / p = q at e3 ⊢
    rw [wrap_id (z := ((q : Nat) : Int)) (by omega) (by omega), wrap_id (z := ((q : Nat) : Int) + 1) (by omega) (by omega), wrap_id (z := ((q : Nat) : Int) + 1 - 0) (by omega) (by omega), Int.sub_zero]
theorem d54_out (k : Nat) (c : CH) (ticks : Int) (h : ticks < 0 ∨ ticks > 1099511627776) : d54 k (c, (ticks, ())) = some ((0, (2, ())), ()) := by
  rcases h with h | h
  · simp [d54, lt, h]
  · simp [d54, lt, h]
theorem p16 (k : Nat) (im : IM) (hf : Fits k im) (x ticks : Int) : ∃ v : I2, d16 k (im, (x, (ticks, ()))) = some (v, ()) ∧ d58 k (im, (x, (ticks, ()))) = some (v, ()) := by
  have e1 : ((1 : Int) == 1) = true := rfl
  rcases both k im hf with ⟨hc, h96, h14⟩ | ⟨e, p, q, he, h96, h14⟩
  rotate_left
  · exact ⟨(0, (e, ())), by simp only [d16, d43x1, lt, h96, ne0 he, Option.bind_some, if_true], by simp only [d58, lt, d107_bad k im x 1 e q he h14, ne0 he, Option.bind_some, if_true]⟩
  by_cases x1 : x < 1
  · exact ⟨(0, (2, ())), by simp [d16, d43x1, lt, h96, x1], by simp [d58, lt, d107_out k im x 1 h14 (.inl x1)]⟩
  by_cases x2 : x > (im.2.2.1.length : Int)
  · exact ⟨(0, (2, ())), by simp [d16, d43x1, lt, h96, x1, x2], by simp [d58, lt, d107_out k im x 1 h14 (.inr x2)]⟩
  obtain ⟨r1, r2⟩ := xr x1 x2 hc.nchans
  cases hg : gateB im x 1 with
  | false =>
    have hn := gate1n hg
    refine ⟨(0, (2, ())), by simp only [d16, d43x1, lt, h96, x1, x2, r1, r2, ecn, z0n, e1, Option.bind_some, decide_false, decide_true, Bool.false_eq_true, if_false, if_true, hn], ?_⟩
    simp only [d58, lt, d107_in k im x 1 hc h14 x1 x2, hg, Bool.false_eq_true, if_false, Option.bind_some]
    simp
  | true =>
    obtain ⟨k1, k2, k3, f, p, k4, k5, k6, k7, k8⟩ := gate1 hc x x1 x2 hg
    have n1 : ((chan im x).1 != 1) = false := by rw [k1]; rfl
    have n2 : ((chan im x).2.1 == 0) = false := by simpa using k2
    by_cases ht : ticks < 0 ∨ ticks > 1099511627776
    · refine ⟨(0, (2, ())), by simp only [d16, d43x1, d53, lt, h96, x1, x2, r1, r2, ecn, z0n, e1, n1, n2, d54_out k _ ticks ht, Option.bind_some, decide_false, decide_true, Bool.false_eq_true, if_false, if_true], ?_⟩
      simp only [d58, lt, d107_in k im x 1 hc h14 x1 x2, hg, if_true, Option.bind_some, z0n, Bool.false_eq_true, if_false]
      rcases ht with ht | ht <;> simp [ht]
    · have t1 : ¬ ticks < 0 := fun h => ht (.inl h)
      have t2 : ¬ ticks > 1099511627776 := fun h => ht (.inr h)
      refine ⟨(rate p ticks, (0, ())), d16_good k im hf x ticks ⟨hc, x1, x2, k1, k2, k4, k5, k6, k7, k8⟩ (by omega) (by omega), ?_⟩
      simp only [d58, lt, d107_in k im x 1 hc h14 x1 x2, hg, if_true, Option.bind_some, z0n, Bool.false_eq_true, if_false, t1, t2, decide_false, k4, k5, d108_eq k f p k6 k7 k8 ticks (by omega) (by omega)]

theorem d59_loop (im : IM) (hp : im.2.1.length ≤ 64) (ts : List Int) (hts : ∀ t, t ∈ ts → wi t 1 (im.2.1.length : Int) = true) (hl : ts.length < 4611686018427387904) (r : Int) : ∀ (m i k : Nat), i + m = ts.length → m < k →
    loopN (d59_L3 d59_K1) k ((im, ()), ((i : Int), (ts, (r, ())))) = some ((roomB im.2.1 r (ts.drop i), (0, ())), ()) := by
  intro m
  induction m with
  | zero =>
    intro i k hi hk
    obtain ⟨k, rfl⟩ : ∃ k', k = k' + 1 := ⟨k - 1, by omega⟩
    rw [List.drop_eq_nil_of_le (by omega)]
    simp only [loopN, d59_L3, lt, dnlt (show ts.length ≤ i by omega), Bool.false_eq_true, if_false, d59_K1, roomB, List.all_nil]
  | succ m ih =>
    intro i k hi hk
    obtain ⟨k, rfl⟩ : ∃ k', k = k' + 1 := ⟨k - 1, by omega⟩
    have h1 : i < ts.length := by omega
    have hw := hts _ (List.getElem_mem h1)
    have ep : im.2.1.getD (ts[i] - 1).toNat (0, (0, (false, (0, (0, (0, ())))))) = port im.2.1 ts[i] := rfl
    have hih := ih (i + 1) k (by omega) (by omega)
    rw [List.drop_eq_getElem_cons h1]
    simp only [loopN, d59_L3, lt, shr, dlt h1, dge0, Bool.and_self, if_true, Int.toNat_natCast, getD_mem h1, wrm hw (by omega), inr hw, ep, d59_K2, wr1 (show i < 4611686018427387904 by omega), hih]
    simp only [roomB, List.all_cons]
    by_cases hr : r ≤ (port im.2.1 ts[i]).2.2.2.2.1
    · have h2 : ¬ r > (port im.2.1 ts[i]).2.2.2.2.1 := by omega
      simp [hr, h2]
    · have h2 : r > (port im.2.1 ts[i]).2.2.2.2.1 := by omega
      simp [hr, h2]
theorem p17 (k : Nat) (im : IM) (hf : Fits k im) (x ticks : Int) : ∃ v : Bool × (Int × Unit), d17 k (im, (x, (ticks, ()))) = some (v, ()) ∧ d59 k (im, (x, (ticks, ()))) = some (v, ()) := by
  have e1 : ((1 : Int) == 1) = true := rfl
  have e2 : ((2 : Int) != 0) = true := rfl
  have e3 : ((2 : Int) == 0) = false := rfl
  rcases both k im hf with ⟨hc, h96, h14⟩ | ⟨e, p, q, he, h96, h14⟩
  rotate_left
  · exact ⟨(false, (e, ())), by simp only [d17, d55, lt, h96, ne0 he, Option.bind_some, if_true], by simp only [d59, d58, lt, d107_bad k im x 1 e q he h14, ne0 he, Option.bind_some, if_true]⟩
  by_cases x1 : x < 1
  · exact ⟨(false, (2, ())), by simp [d17, d55, lt, h96, x1], by simp [d59, d58, lt, d107_out k im x 1 h14 (.inl x1)]⟩
  by_cases x2 : x > (im.2.2.1.length : Int)
  · exact ⟨(false, (2, ())), by simp [d17, d55, lt, h96, x1, x2], by simp [d59, d58, lt, d107_out k im x 1 h14 (.inr x2)]⟩
  obtain ⟨r1, r2⟩ := xr x1 x2 hc.nchans
  cases hg : gateB im x 1 with
  | false =>
    have hn := gate1n hg
    refine ⟨(false, (2, ())), by simp only [d17, d55, lt, h96, x1, x2, r1, r2, ecn, z0n, e1, Option.bind_some, decide_false, decide_true, Bool.false_eq_true, if_false, if_true, hn], ?_⟩
    simp only [d59, d58, lt, d107_in k im x 1 hc h14 x1 x2, hg, Bool.false_eq_true, if_false, Option.bind_some]
    simp
  | true =>
    obtain ⟨k1, k2, k3, f, p, k4, k5, k6, k7, k8⟩ := gate1 hc x x1 x2 hg
    have n1 : ((chan im x).1 != 1) = false := by rw [k1]; rfl
    have n2 : ((chan im x).2.1 == 0) = false := by simpa using k2
    obtain ⟨i, hi, hci⟩ := getD_at x1 x2
    have hto := hc.tos i hi
    have hq := hf.tos _ (List.getElem_mem hi)
    rw [← hci] at hto hq
    by_cases ht : ticks < 0 ∨ ticks > 1099511627776
    · refine ⟨(false, (2, ())), ?_, ?_⟩
      · have hl := room_loop im hc.nports (chan im x).2.2.1 hto hq.2 0 2 (chan im x).2.2.1.length 0 k false (by omega) hq.1
        rw [Bool.false_and] at hl
        simp only [d17, d55, d56, lt, shr, h96, x1, x2, r1, r2, ecn, z0n, e1, e3, n1, n2, d54_out k _ ticks ht, Option.bind_some, decide_false, decide_true, Bool.false_eq_true, if_false, if_true]
        rw [show loopN (d56_L3 d56_K1) k ((), (0, (im, (0, (false, ((chan im x).2.2.1, (2, (((chan im x).2.2.1.length : Int), ())))))))) = some ((false, (2, ())), ()) from hl]
        rfl
      · simp only [d59, d58, lt, d107_in k im x 1 hc h14 x1 x2, hg, if_true, Option.bind_some, z0n, Bool.false_eq_true, if_false]
        rcases ht with ht | ht <;> simp [ht]
    · have t1 : ¬ ticks < 0 := fun h => ht (.inl h)
      have t2 : ¬ ticks > 1099511627776 := fun h => ht (.inr h)
      refine ⟨(roomB im.2.1 (rate p ticks) (chan im x).2.2.1, (0, ())), d17_good k im hf x ticks ⟨hc, x1, x2, k1, k2, k4, k5, k6, k7, k8⟩ (by omega) (by omega), ?_⟩
      have hl := d59_loop im hc.nports (chan im x).2.2.1 hto hq.2 (rate p ticks) (chan im x).2.2.1.length 0 k (by omega) hq.1
      rw [List.drop_zero] at hl
      simp only [d59, d58, lt, shr, d107_in k im x 1 hc h14 x1 x2, hg, if_true, Option.bind_some, z0n, Bool.false_eq_true, if_false, t1, t2, decide_false, k4, k5, d108_eq k f p k6 k7 k8 ticks (by omega) (by omega), r1, r2, ecn]
      exact hl
theorem p13 (k : Nat) (im : IM) (hf : Fits k im) (x ticks : Int) : ∃ v : I2, d13 k (im, (x, (ticks, ()))) = some (v, ()) ∧ d60 k (im, (x, (ticks, ()))) = some (v, ()) := by
  have e1 : ((0 : Int) == 1) = false := rfl
  rcases both k im hf with ⟨hc, h96, h14⟩ | ⟨e, p, q, he, h96, h14⟩
  rotate_left
  · exact ⟨(0, (e, ())), by simp only [d13, d43, lt, h96, ne0 he, Option.bind_some, if_true], by simp only [d60, lt, d107_bad k im x 0 e q he h14, ne0 he, Option.bind_some, if_true]⟩
  by_cases x1 : x < 1
  · exact ⟨(0, (2, ())), by simp [d13, d43, lt, h96, x1], by simp [d60, lt, d107_out k im x 0 h14 (.inl x1)]⟩
  by_cases x2 : x > (im.2.2.1.length : Int)
  · exact ⟨(0, (2, ())), by simp [d13, d43, lt, h96, x1, x2], by simp [d60, lt, d107_out k im x 0 h14 (.inr x2)]⟩
  obtain ⟨r1, r2⟩ := xr x1 x2 hc.nchans
  cases hn : ((chan im x).1 != 0) with
  | true =>
    have hg : gateB im x 0 = false := by simp [gateB, hn]
    refine ⟨(0, (2, ())), by simp only [d13, d43, lt, h96, x1, x2, r1, r2, ecn, z0n, e1, hn, Option.bind_some, decide_false, decide_true, Bool.false_eq_true, if_false, if_true], ?_⟩
    simp only [d60, lt, d107_in k im x 0 hc h14 x1 x2, hg, Bool.false_eq_true, if_false, Option.bind_some]
    simp
  | false =>
    have hg : gateB im x 0 = true := by simp [gateB, hn]
    by_cases ht : ticks < 1 ∨ ticks > 1099511627776
    · refine ⟨(0, (2, ())), ?_, ?_⟩
      · simp only [d13, d43, d44, lt, h96, x1, x2, r1, r2, ecn, z0n, e1, hn, Option.bind_some, decide_false, decide_true, Bool.false_eq_true, if_false, if_true]
        rcases ht with ht | ht <;> simp [ht]
      · simp only [d60, lt, d107_in k im x 0 hc h14 x1 x2, hg, if_true, Option.bind_some, z0n, Bool.false_eq_true, if_false]
        rcases ht with ht | ht <;> simp [ht]
    · have t1 : ¬ ticks < 1 := fun h => ht (.inl h)
      have t2 : ¬ ticks > 1099511627776 := fun h => ht (.inr h)
      refine ⟨(IntKind.wrap .i64 (ticks - 1), (0, ())), ?_, ?_⟩
      · simp only [d13, d43, d44, lt, h96, x1, x2, r1, r2, ecn, z0n, e1, hn, Option.bind_some, decide_false, decide_true, Bool.false_eq_true, if_false, if_true, t1, t2]
      · simp only [d60, lt, d107_in k im x 0 hc h14 x1 x2, hg, if_true, Option.bind_some, z0n, Bool.false_eq_true, if_false, t1, t2, decide_false]
/-- Every answer is the document's. -/
theorem d20_eq (k : Nat) (im : IM) (hf : Fits k im) (x ticks : Int) : d20 k (im, (im, (x, (ticks, ())))) = some ((true, ()), ()) := by
  obtain ⟨v1, a1, b1⟩ := p52 k im hf x
  obtain ⟨v2, a2, b2⟩ := p16 k im hf x ticks
  obtain ⟨v3, a3, b3⟩ := p17 k im hf x ticks
  obtain ⟨v4, a4, b4⟩ := p13 k im hf x ticks
  simp only [d20, lt, a1, a2, a3, a4, b1, b2, b3, b4, Option.bind_some, bne_self_eq_false, beq_self_eq_true, Bool.false_eq_true, if_false, if_true]
end Go.Proofs.YtekgngedamnmaaaGreatDoor.L
