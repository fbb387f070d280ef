import Derived.Test.YtekgngedamnmaaaGreatDoorAgM12
namespace Go.Proofs.YtekgngedamnmaaaGreatDoor.L
open Go Go.Lift
set_option linter.unusedVariables false
set_option linter.unusedSimpArgs false
set_option maxRecDepth 100000

def roomB (ps : List PO) (r : Int) (ts : List Int) : Bool := ts.all fun t => decide (r ≤ (port ps t).2.2.2.2.1)
theorem room_mono {ps : List PO} {r r' : Int} {ts : List Int} (h : r ≤ r') : roomB ps r' ts = true → roomB ps r ts = true := by
  unfold roomB
  rw [List.all_eq_true, List.all_eq_true]
  intro H t ht
  have := of_decide_eq_true (H t ht)
  exact decide_eq_true (by omega)
theorem room_loop (im : IM) (hp : im.2.1.length ≤ 64) (ts : List Int) (hts : ∀ t, t ∈ ts → wi t 1 (im.2.1.length : Int) = true) (hl : ts.length < 4611686018427387904) (r e : Int) : ∀ (m i k : Nat) (ok : Bool), i + m = ts.length → m < k →
    loopN (d56_L3 d56_K1) k ((), ((i : Int), (im, (r, (ok, (ts, (e, (((ts.length : Nat) : Int), ())))))))) = some (((ok && roomB im.2.1 r (ts.drop i)), (e, ())), ()) := by
  intro m
  induction m with
  | zero =>
    intro i k ok hi hk
    obtain ⟨k, rfl⟩ : ∃ k', k = k' + 1 := ⟨k - 1, by omega⟩
    rw [List.drop_eq_nil_of_le (by omega)]
    simp only [loopN, d56_L3, lt, dnlt (show ts.length ≤ i by omega), Bool.false_eq_true, if_false, d56_K1, roomB, List.all_nil, Bool.and_true]
  | succ m ih =>
    intro i k ok hi hk
    obtain ⟨k, rfl⟩ : ∃ k', k = k' + 1 := ⟨k - 1, by omega⟩
    have h1 : i < ts.length := by omega
    have hw := hts _ (List.getElem_mem h1)
    have ep : im.2.1.getD (ts[i] - 1).toNat (0, (0, (false, (0, (0, (0, ())))))) = port im.2.1 ts[i] := rfl
    have hih := ih (i + 1) k (if ok = true then decide (r ≤ (port im.2.1 ts[i]).2.2.2.2.1) else false) (by omega) (by omega)
    rw [List.drop_eq_getElem_cons h1]
    simp only [loopN, d56_L3, lt, shr, dlt h1, dge0, Bool.and_self, if_true, Int.toNat_natCast, getD_mem h1, wrm hw (by omega), inr hw, Bool.or_true, ep, d56_K2, wr1 (show i < 4611686018427387904 by omega), hih]
    simp only [roomB, List.all_cons]
    cases ok <;> cases decide (r ≤ (port im.2.1 ts[i]).2.2.2.2.1) <;> rfl
theorem safe_loop (c : CH) (im : IM) (hp : im.2.1.length ≤ 64) (K : (IM × Unit) × (Bool × (Bool × (Int × (Int × Unit)))) → Option ((Bool × Unit) × Unit)) (hts : ∀ t, t ∈ c.2.2.1 → wi t 1 (im.2.1.length : Int) = true) (hl : c.2.2.1.length < 4611686018427387904) (r ticks x : Int) (room : Bool) : ∀ (m i k : Nat) (ok : Bool), i + m = c.2.2.1.length → m < k →
    loopN (d4_L3 K) k ((c, (im, ())), ((i : Int), (r, (ok, (room, (ticks, (x, ()))))))) = K ((im, ()), (room, ((ok && roomB im.2.1 r (c.2.2.1.drop i)), (ticks, (x, ()))))) := by
  intro m
  induction m with
  | zero =>
    intro i k ok hi hk
    obtain ⟨k, rfl⟩ : ∃ k', k = k' + 1 := ⟨k - 1, by omega⟩
    rw [List.drop_eq_nil_of_le (by omega)]
    simp only [loopN, d4_L3, lt, dnlt (show c.2.2.1.length ≤ i by omega), Bool.false_eq_true, if_false, roomB, List.all_nil, Bool.and_true]
  | succ m ih =>
    intro i k ok hi hk
    obtain ⟨k, rfl⟩ : ∃ k', k = k' + 1 := ⟨k - 1, by omega⟩
    have h1 : i < c.2.2.1.length := by omega
    have hw := hts _ (List.getElem_mem h1)
    have ep : im.2.1.getD (c.2.2.1[i] - 1).toNat (0, (0, (false, (0, (0, (0, ())))))) = port im.2.1 c.2.2.1[i] := rfl
    have hih := ih (i + 1) k (if ok = true then decide (r ≤ (port im.2.1 c.2.2.1[i]).2.2.2.2.1) else false) (by omega) (by omega)
    rw [List.drop_eq_getElem_cons h1]
    simp only [loopN, d4_L3, lt, shr, dlt h1, dge0, Bool.and_self, if_true, Int.toNat_natCast, getD_mem h1, wrm hw (by omega), inr hw, Bool.or_true, ep, d4_K2, wr1 (show i < 4611686018427387904 by omega), hih]
    simp only [roomB, List.all_cons]
    cases ok <;> cases decide (r ≤ (port im.2.1 c.2.2.1[i]).2.2.2.2.1) <;> rfl
/-- A channel with a rate. -/
structure Rated (k : Nat) (im : IM) (x : Int) (f p : Nat) : Prop where
  ok : CheckOk im
  x1 : ¬ x < 1
  x2 : ¬ x > (im.2.2.1.length : Int)
  kd : (chan im x).1 = 1
  nz : (chan im x).2.1 ≠ 0
  ph : (chan im x).2.2.2.1 = (f : Int)
  per : (chan im x).2.2.2.2.1 = (p : Int)
  p1 : 1 ≤ p
  p2 : p ≤ 1048576
  fp : f < p
theorem d16_two (k : Nat) (im : IM) (hf : Fits k im) (x ticks : Int) (hc : CheckOk im) (x1 : ¬ x < 1) (x2 : ¬ x > (im.2.2.1.length : Int)) (h : ((chan im x).1 == 1 && (chan im x).2.1 != 0) = false) : d16 k (im, (x, (ticks, ()))) = some ((0, (2, ())), ()) := by
  have z0 : ((0 : Int) != 0) = false := rfl
  have z1 : ((1 : Int) == 1) = true := rfl
  obtain ⟨r1, r2⟩ := xr x1 x2 hc.nchans
  have ec : im.2.2.1.getD (x - 1).toNat (0, (0, (([] : List Int), (0, (0, ()))))) = chan im x := rfl
  rcases d96_eq k im hf with ⟨_, h96⟩ | ⟨hc', _⟩
  rotate_left
  · exact absurd hc hc'
  have n1 : ((chan im x).1 != 1) = !((chan im x).1 == 1) := rfl
  have n2 : ((chan im x).2.1 != 0) = !((chan im x).2.1 == 0) := rfl
  rw [n2] at h
  have key : (if ((chan im x).1 != 1) = true then true else ((chan im x).2.1 == 0)) = true := by
    rw [n1]; revert h; cases ((chan im x).1 == 1) <;> cases ((chan im x).2.1 == 0) <;> decide
  simp only [d16, d43x1, lt, h96, x1, x2, r1, r2, ec, z0, z1, Option.bind_some, decide_false, decide_true, Bool.false_eq_true, if_false, if_true, key]
theorem d16_good (k : Nat) (im : IM) (hf : Fits k im) (x ticks : Int) {f p : Nat} (h : Rated k im x f p) (t1 : 0 ≤ ticks) (t2 : ticks ≤ 1099511627776) : d16 k (im, (x, (ticks, ()))) = some ((rate p ticks, (0, ())), ()) := by
  have z0 : ((0 : Int) != 0) = false := rfl
  have z1 : ((1 : Int) == 1) = true := rfl
  have x1 := h.x1
  have x2 := h.x2
  obtain ⟨r1, r2⟩ := xr h.x1 h.x2 h.ok.nchans
  have ec : im.2.2.1.getD (x - 1).toNat (0, (0, (([] : List Int), (0, (0, ()))))) = chan im x := rfl
  rcases d96_eq k im hf with ⟨_, h96⟩ | ⟨hc', _⟩
  rotate_left
  · exact absurd h.ok hc'
  have n1 : ((chan im x).1 != 1) = false := by rw [h.kd]; rfl
  have n2 : ((chan im x).2.1 == 0) = false := by simpa using h.nz
  simp only [d16, d43x1, d53, lt, h96, x1, x2, r1, r2, ec, z0, z1, n1, n2, Option.bind_some, decide_false, decide_true, Bool.false_eq_true, if_false, if_true, d54_eq k (chan im x) p h.p1 h.p2 h.per ticks t1 t2]
theorem getD_at {im : IM} {x : Int} (x1 : ¬ x < 1) (x2 : ¬ x > (im.2.2.1.length : Int)) : ∃ (i : Nat) (hi : i < im.2.2.1.length), chan im x = im.2.2.1[i] := by
  have hi : (x - 1).toNat < im.2.2.1.length := by omega
  exact ⟨(x - 1).toNat, hi, getD_mem hi _⟩
theorem d17_good (k : Nat) (im : IM) (hf : Fits k im) (x ticks : Int) {f p : Nat} (h : Rated k im x f p) (t1 : 0 ≤ ticks) (t2 : ticks ≤ 1099511627776) : d17 k (im, (x, (ticks, ()))) = some ((roomB im.2.1 (rate p ticks) (chan im x).2.2.1, (0, ())), ()) := by
  have z0 : ((0 : Int) != 0) = false := rfl
  have z1 : ((1 : Int) == 1) = true := rfl
  have x1 := h.x1
  have x2 := h.x2
  obtain ⟨r1, r2⟩ := xr h.x1 h.x2 h.ok.nchans
  have ec : im.2.2.1.getD (x - 1).toNat (0, (0, (([] : List Int), (0, (0, ()))))) = chan im x := rfl
  rcases d96_eq k im hf with ⟨_, h96⟩ | ⟨hc', _⟩
  rotate_left
  · exact absurd h.ok hc'
  have n1 : ((chan im x).1 != 1) = false := by rw [h.kd]; rfl
  have n2 : ((chan im x).2.1 == 0) = false := by simpa using h.nz
  obtain ⟨i, hi, hci⟩ := getD_at h.x1 h.x2
  have ht := h.ok.tos i hi
  have hq := hf.tos _ (List.getElem_mem hi)
  rw [← hci] at ht hq
  have hl := room_loop im h.ok.nports (chan im x).2.2.1 ht hq.2 (rate p ticks) 0 (chan im x).2.2.1.length 0 k true (by omega) hq.1
  rw [List.drop_zero, Bool.true_and] at hl
  have e0 : ((0 : Int) == 0) = true := rfl
  simp only [d17, d55, d56, lt, shr, h96, x1, x2, r1, r2, ec, z0, z1, n1, n2, e0, Option.bind_some, decide_false, decide_true, Bool.false_eq_true, if_false, if_true, d54_eq k (chan im x) p h.p1 h.p2 h.per ticks t1 t2]
  rw [show loopN (d56_L3 d56_K1) k ((), (0, (im, (rate p ticks, (true, ((chan im x).2.2.1, (0, (((chan im x).2.2.1.length : Int), ())))))))) = some ((roomB im.2.1 (rate p ticks) (chan im x).2.2.1, (0, ())), ()) from hl]
  rfl
theorem d4_eq (k : Nat) (im : IM) (hf : Fits k im) (x ticks from_ : Int) : d4 k (im, (x, (ticks, (from_, ())))) = some ((true, ()), ()) := by
  have hk := hf.fuel
  have z0 : ((0 : Int) != 0) = false := rfl
  rcases d14_eq k im hf with ⟨hc, h14⟩ | ⟨hc, e2, p2, he2, h14⟩
  rotate_left
  · simp only [d4, lt, h14, ne0 he2, Option.bind_some, if_true, lives hk]
  by_cases x1 : x < 1
  · simp only [d4, lt, h14, z0, x1, decide_true, Option.bind_some, if_true, lives hk, Bool.false_eq_true, if_false]
  by_cases x2 : x > (im.2.2.1.length : Int)
  · simp only [d4, lt, h14, z0, x1, x2, decide_true, decide_false, Option.bind_some, if_true, lives hk, Bool.false_eq_true, if_false]
  by_cases t1 : ticks < 0
  · simp only [d4, lt, h14, z0, x1, x2, t1, decide_true, decide_false, Option.bind_some, if_true, lives hk, Bool.false_eq_true, if_false]
  by_cases t2 : ticks > 2000
  · simp only [d4, lt, h14, z0, x1, x2, t1, t2, decide_true, decide_false, Option.bind_some, if_true, lives hk, Bool.false_eq_true, if_false]
  by_cases f1 : from_ < 0
  · simp only [d4, lt, h14, z0, x1, x2, t1, t2, f1, decide_true, decide_false, Option.bind_some, if_true, lives hk, Bool.false_eq_true, if_false]
  by_cases f2 : from_ > 5000
  · simp only [d4, lt, h14, z0, x1, x2, t1, t2, f1, f2, decide_true, decide_false, Option.bind_some, if_true, lives hk, Bool.false_eq_true, if_false]
  obtain ⟨r1, r2⟩ := xr x1 x2 hc.nchans
  have ec : im.2.2.1.getD (x - 1).toNat (0, (0, (([] : List Int), (0, (0, ()))))) = chan im x := rfl
  have n1 : ((chan im x).1 != 1) = !((chan im x).1 == 1) := rfl
  have n2 : ((chan im x).2.1 != 0) = !((chan im x).2.1 == 0) := rfl
  cases hq : ((chan im x).1 == 1 && (chan im x).2.1 != 0) with
  | false =>
    have h16 := d16_two k im hf x ticks hc x1 x2 hq
    have z2 : ((2 : Int) == 2) = true := rfl
    rw [n2] at hq
    have k1 : (if ((chan im x).1 != 1) = true then true else ((chan im x).2.1 == 0)) = true := by
      rw [n1]; revert hq; cases ((chan im x).1 == 1) <;> cases ((chan im x).2.1 == 0) <;> decide
    have k2 : (if ((chan im x).1 == 1) = true then ((chan im x).2.1 != 0) else false) = false := by
      rw [n2]; revert hq; cases ((chan im x).1 == 1) <;> cases ((chan im x).2.1 == 0) <;> decide
    have ff : (false == false) = true := rfl
    simp only [d4, lt, h14, h16, z0, z2, ff, x1, x2, t1, t2, f1, f2, r1, r2, ec, k1, k2, decide_true, decide_false, Option.bind_some, if_true, lives hk, Bool.false_eq_true, if_false, beq_self_eq_true, Bool.and_self]
  | true =>
    have hq' := hq
    rw [Bool.and_eq_true] at hq'
    have e1 : (chan im x).1 = 1 := by simpa using hq'.1
    have e2 : (chan im x).2.1 ≠ 0 := by simpa using hq'.2
    obtain ⟨i, hi, hci⟩ := getD_at x1 x2
    have hqq := hc.queue i hi (hci ▸ e1) (hci ▸ e2)
    rw [← hci] at hqq
    obtain ⟨f, p, ph, per, p1, p2, fp⟩ := hqq
    have hR : Rated k im x f p := ⟨hc, x1, x2, e1, e2, ph, per, p1, p2, fp⟩
    have h16 := d16_good k im hf x ticks hR (by omega) (by omega)
    have m1 : ((chan im x).1 != 1) = false := by rw [e1]; rfl
    have m2 : ((chan im x).2.1 == 0) = false := by simpa using e2
    have m3 : ((chan im x).1 == 1) = true := hq'.1
    have m4 : ((chan im x).2.1 != 0) = true := hq'.2
    by_cases g1 : (f : Int) > 5000
    · simp only [d4, lt, h14, h16, z0, x1, x2, t1, t2, f1, f2, r1, r2, ec, m1, m2, m3, m4, ph, g1, decide_true, decide_false, Option.bind_some, if_true, lives hk, Bool.false_eq_true, if_false, beq_self_eq_true, Bool.and_self]
      split <;> simp [lives hk]
    · have h17 := d17_good k im hf x ticks hR (by omega) (by omega)
      have h17' := d17_good k im hf x (ticks + 1) hR (by omega) (by omega)
      have h18 := d18_eq k hk (chan im x) f p ph per (by omega) p1 p2 from_ ticks (by omega) (by omega) (by omega)
      have h18' := d18_eq k hk (chan im x) f p ph per (by omega) p1 p2 (f : Int) ticks (by omega) (by omega) (by omega)
      have c1 := count_le (f := f) p1 from_ ticks (by omega)
      have c2 := count_eq (f := f) p1 ticks (by omega)
      rw [c2] at h18'
      have c1' : decide (((G f p (from_ + ticks) - G f p from_ : Nat) : Int) > rate p ticks) = false := decide_eq_false (by omega)
      have c3 : (rate p ticks != rate p ticks) = false := by simp
      have ff : (false == false) = true := rfl
      have hw1 : IntKind.wrap .i64 (from_ + ticks) = from_ + ticks := wrap_id (by omega) (by omega)
      have hw2 : IntKind.wrap .i64 ((f : Int) + ticks) = (f : Int) + ticks := wrap_id (by omega) (by omega)
      have hw3 : IntKind.wrap .i64 (ticks + 1) = ticks + 1 := wrap_id (by omega) (by omega)
      have ht := hc.tos i hi
      have hqt := hf.tos _ (List.getElem_mem hi)
      rw [← hci] at ht hqt
      have hl := safe_loop (chan im x) im hc.nports (d4_K1 k) ht hqt.2 (rate p ticks) ticks x (roomB im.2.1 (rate p ticks) (chan im x).2.2.1) (chan im x).2.2.1.length 0 k true (by omega) hqt.1
      rw [List.drop_zero, Bool.true_and] at hl
      simp only [d4, lt, h14, h16, h17, h18, h18', z0, x1, x2, t1, t2, f1, f2, r1, r2, ec, m1, m2, m3, m4, ph, g1, hw1, hw2, c1', c3, ff, decide_true, decide_false, Option.bind_some, if_true, Bool.false_eq_true, if_false, beq_self_eq_true, Bool.and_self, shr]
      refine Eq.trans hl ?_
      simp only [d4_K1, lt, hw3, h17', Option.bind_some, beq_self_eq_true, if_true, Bool.and_true]
      have hm := room_mono (ps := im.2.1) (ts := (chan im x).2.2.1) (rate_mono (p := p) p1 (show ticks ≤ ticks + 1 by omega))
      cases hr : roomB im.2.1 (rate p (ticks + 1)) (chan im x).2.2.1 with
      | false => simp [lives hk]
      | true => simp [hm hr, lives hk]
end Go.Proofs.YtekgngedamnmaaaGreatDoor.L
