import Derived.Test.YtekgngedamnmaaaGreatDoorAgM12
namespace Go.Proofs.YtekgngedamnmaaaGreatDoor.L
open Go Go.Lift
set_option linter.unusedVariables false
set_option linter.unusedSimpArgs false
set_option maxRecDepth 100000

def roomB (ps : List PO) (r : Int) (ts : List Int) : Bool := ts.all fun t => decide (r ≤ (port ps t).2.2.2.2.1)
theorem room_loop (im : IM) (hp : im.2.1.length ≤ 64) (ts : List Int) (hts : ∀ t, t ∈ ts → wi t 1 (im.2.1.length : Int) = true) (hl : ts.length < 4611686018427387904) (r e : Int) : ∀ (m i k : Nat) (ok : Bool), i + m = ts.length → m < k →
    loopN (d56_L3 d56_K1) k ((), ((i : Int), (im, (r, (ok, (ts, (e, (((ts.length : Nat) : Int), ())))))))) = some (((ok && roomB im.2.1 r (ts.drop i)), (e, ())), ()) := by
  intro m
  induction m with
  | zero =>
    intro i k ok hi hk
    obtain ⟨k, rfl⟩ : ∃ k', k = k' + 1 := ⟨k - 1, by omega⟩
    rw [List.drop_eq_nil_of_le (by omega)]
    simp only [loopN, d56_L3, lt, dnlt (show ts.length ≤ i by omega), Bool.false_eq_true, if_false, d56_K1, roomB, List.all_nil, Bool.and_true]
  | succ m ih =>
    intro i k ok hi hk
    obtain ⟨k, rfl⟩ : ∃ k', k = k' + 1 := ⟨k - 1, by omega⟩
    have h1 : i < ts.length := by omega
    have hw := hts _ (List.getElem_mem h1)
    have ep : im.2.1.getD (ts[i] - 1).toNat (0, (0, (false, (0, (0, (0, ())))))) = port im.2.1 ts[i] := rfl
    have hih := ih (i + 1) k (if ok = true then decide (r ≤ (port im.2.1 ts[i]).2.2.2.2.1) else false) (by omega) (by omega)
    rw [List.drop_eq_getElem_cons h1]
    simp only [loopN, d56_L3, lt, shr, dlt h1, dge0, Bool.and_self, if_true, Int.toNat_natCast, getD_mem h1, wrm hw (by omega), inr hw, Bool.or_true, ep, d56_K2, wr1 (show i < 4611686018427387904 by omega), hih]
    simp only [roomB, List.all_cons]
    cases ok <;> cases decide (r ≤ (port im.2.1 ts[i]).2.2.2.2.1) <;> rfl
/-- A channel with a rate. -/
structure Rated (k : Nat) (im : IM) (x : Int) (f p : Nat) : Prop where
  ok : CheckOk im
  x1 : ¬ x < 1
  x2 : ¬ x > (im.2.2.1.length : Int)
  kd : (chan im x).1 = 1
  nz : (chan im x).2.1 ≠ 0
  ph : (chan im x).2.2.2.1 = (f : Int)
  per : (chan im x).2.2.2.2.1 = (p : Int)
  p1 : 1 ≤ p
  p2 : p ≤ 1048576
  fp : f < p
theorem d16_good (k : Nat) (im : IM) (hf : Fits k im) (x ticks : Int) {f p : Nat} (h : Rated k im x f p) (t1 : 0 ≤ ticks) (t2 : ticks ≤ 1099511627776) : d16 k (im, (x, (ticks, ()))) = some ((rate p ticks, (0, ())), ()) := by
  have z0 : ((0 : Int) != 0) = false := rfl
  have z1 : ((1 : Int) == 1) = true := rfl
  have x1 := h.x1
  have x2 := h.x2
  obtain ⟨r1, r2⟩ := xr h.x1 h.x2 h.ok.nchans
  have ec : im.2.2.1.getD (x - 1).toNat (0, (0, (([] : List Int), (0, (0, ()))))) = chan im x := rfl
  rcases d96_eq k im hf with ⟨_, h96⟩ | ⟨hc', _⟩
  rotate_left
  · exact absurd h.ok hc'
  have n1 : ((chan im x).1 != 1) = false := by rw [h.kd]; rfl
  have n2 : ((chan im x).2.1 == 0) = false := by simpa using h.nz
  simp only [d16, d43x1, d53, lt, h96, x1, x2, r1, r2, ec, z0, z1, n1, n2, Option.bind_some, decide_false, decide_true, Bool.false_eq_true, if_false, if_true, d54_eq k (chan im x) p h.p1 h.p2 h.per ticks t1 t2]
theorem getD_at {im : IM} {x : Int} (x1 : ¬ x < 1) (x2 : ¬ x > (im.2.2.1.length : Int)) : ∃ (i : Nat) (hi : i < im.2.2.1.length), chan im x = im.2.2.1[i] := by
  have hi : (x - 1).toNat < im.2.2.1.length := by omega
  exact ⟨(x - 1).toNat, hi, getD_mem hi _⟩
theorem d17_good (k : Nat) (im : IM) (hf : Fits k im) (x ticks : Int) {f p : Nat} (h : Rated k im x f p) (t1 : 0 ≤ ticks) (t2 : ticks ≤ 1099511627776) : d17 k (im, (x, (ticks, ()))) = some ((roomB im.2.1 (rate p ticks) (chan im x).2.2.1, (0, ())), ()) := by
  have z0 : ((0 : Int) != 0) = false := rfl
  have z1 : ((1 : Int) == 1) = true := rfl
  have x1 := h.x1
  have x2 := h.x2
  obtain ⟨r1, r2⟩ := xr h.x1 h.x2 h.ok.nchans
  have ec : im.2.2.1.getD (x - 1).toNat (0, (0, (([] : List Int), (0, (0, ()))))) = chan im x := rfl
  rcases d96_eq k im hf with ⟨_, h96⟩ | ⟨hc', _⟩
  rotate_left
  · exact absurd h.ok hc'
  have n1 : ((chan im x).1 != 1) = false := by rw [h.kd]; rfl
  have n2 : ((chan im x).2.1 == 0) = false := by simpa using h.nz
  obtain ⟨i, hi, hci⟩ := getD_at h.x1 h.x2
  have ht := h.ok.tos i hi
  have hq := hf.tos _ (List.getElem_mem hi)
  rw [← hci] at ht hq
  have hl := room_loop im h.ok.nports (chan im x).2.2.1 ht hq.2 (rate p ticks) 0 (chan im x).2.2.1.length 0 k true (by omega) hq.1
  rw [List.drop_zero, Bool.true_and] at hl
  have e0 : ((0 : Int) == 0) = true := rfl
  simp only [d17, d55, d56, lt, shr, h96, x1, x2, r1, r2, ec, z0, z1, n1, n2, e0, Option.bind_some, decide_false, decide_true, Bool.false_eq_true, if_false, if_true, d54_eq k (chan im x) p h.p1 h.p2 h.per ticks t1 t2]
  rw [show loopN (d56_L3 d56_K1) k ((), (0, (im, (rate p ticks, (true, ((chan im x).2.2.1, (0, (((chan im x).2.2.1.length : Int), ())))))))) = some ((roomB im.2.1 (rate p ticks) (chan im x).2.2.1, (0, ())), ()) from hl]
  rfl
end Go.Proofs.YtekgngedamnmaaaGreatDoor.L
