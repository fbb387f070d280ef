import Derived.Test.YtekgngedamnmaaaGreatDoorAgM11
namespace Go.Proofs.YtekgngedamnmaaaGreatDoor.L
open Go Go.Lift
set_option linter.unusedVariables false
set_option linter.unusedSimpArgs false
set_option maxRecDepth 100000

theorem chansB_at (ps : List PO) : ∀ (cs bef : List CH), chansB ps bef cs = true → ∀ i (h : i < cs.length), chanB ps (bef ++ cs.take i) cs[i] = true := by
  intro cs
  induction cs with
  | nil => intro bef _ i h; exact absurd h (Nat.not_lt_zero _)
  | cons c cs ih =>
    intro bef hb i h
    rw [chansB, Bool.and_eq_true] at hb
    cases i with
    | zero => simpa using hb.1
    | succ i =>
      have := ih (bef ++ [c]) hb.2 i (by simpa using h)
      simpa [List.append_assoc] using this
theorem CheckOk.chan {im : IM} (h : CheckOk im) (i : Nat) (hi : i < im.2.2.1.length) : chanB im.2.1 (im.2.2.1.take i) im.2.2.1[i] = true := by
  have := chansB_at im.2.1 im.2.2.1 [] h.chans i hi
  simpa using this
theorem CheckOk.tos {im : IM} (h : CheckOk im) (i : Nat) (hi : i < im.2.2.1.length) : ∀ t, t ∈ im.2.2.1[i].2.2.1 → wi t 1 (im.2.1.length : Int) = true := by
  have := h.chan i hi
  simp only [chanB, Bool.and_eq_true] at this
  exact fun t ht => (toB_mem this.1.2 t ht).1
/-- A queuing channel with a sender has a phase and a period. -/
theorem CheckOk.queue {im : IM} (h : CheckOk im) (i : Nat) (hi : i < im.2.2.1.length) (hk : im.2.2.1[i].1 = 1) (hn : im.2.2.1[i].2.1 ≠ 0) : ∃ f p : Nat, im.2.2.1[i].2.2.2.1 = (f : Int) ∧ im.2.2.1[i].2.2.2.2.1 = (p : Int) ∧ 1 ≤ p ∧ p ≤ 1048576 ∧ f < p := by
  have := h.chan i hi
  simp only [chanB, Bool.and_eq_true] at this
  have hr := this.2
  have e1 : (im.2.2.1[i].1 == 1 && im.2.2.1[i].2.1 != 0) = true := by simp [hk, hn]
  simp only [rateB, e1, if_true, Bool.and_eq_true, wi_iff] at hr
  exact ⟨im.2.2.1[i].2.2.2.1.toNat, im.2.2.1[i].2.2.2.2.1.toNat, by omega, by omega, by omega, by omega, by omega⟩

theorem ne0 {e : Int} (h : e ≠ 0) : (e != 0) = true := by simpa using h
theorem xr {x : Int} {n : Nat} (h1 : ¬ x < 1) (h2 : ¬ x > (n : Int)) (hn : n ≤ 64) : IntKind.wrap .i64 (x - 1) = x - 1 ∧ (decide ((0 : Int) ≤ x - 1) && decide (x - 1 < (n : Int))) = true := by
  refine ⟨wrap_id (by omega) (by omega), ?_⟩
  have a : decide ((0 : Int) ≤ x - 1) = true := decide_eq_true (by omega)
  have b : decide (x - 1 < (n : Int)) = true := decide_eq_true (by omega)
  rw [a, b]; rfl

/-! ### d13: the age at rest -/
def chan (im : IM) (x : Int) : CH := im.2.2.1.getD (x - 1).toNat ch0
def badAge (im : IM) (x ticks : Int) : Prop := ¬ CheckOk im ∨ x < 1 ∨ x > (im.2.2.1.length : Int) ∨ (chan im x).1 ≠ 0 ∨ ticks < 1 ∨ ticks > 1099511627776
theorem d13_eq (k : Nat) (im : IM) (hf : Fits k im) (x ticks : Int) :
    (badAge im x ticks ∧ ∃ e, e ≠ (0 : Int) ∧ d13 k (im, (x, (ticks, ()))) = some ((0, (e, ())), ())) ∨ (¬ badAge im x ticks ∧ d13 k (im, (x, (ticks, ()))) = some ((ticks - 1, (0, ())), ())) := by
  have z0 : ((0 : Int) != 0) = false := rfl
  have z1 : ((0 : Int) == 1) = false := rfl
  rcases d96_eq k im hf with ⟨hc, h96⟩ | ⟨hc, e, p, he, h96⟩
  · by_cases x1 : x < 1
    · exact .inl ⟨.inr (.inl x1), 2, by decide, by simp [d13, d43, lt, h96, x1]⟩
    · by_cases x2 : x > (im.2.2.1.length : Int)
      · exact .inl ⟨.inr (.inr (.inl x2)), 2, by decide, by simp [d13, d43, lt, h96, x1, x2]⟩
      · obtain ⟨r1, r2⟩ := xr x1 x2 hc.nchans
        have ec : im.2.2.1.getD (x - 1).toNat (0, (0, (([] : List Int), (0, (0, ()))))) = chan im x := rfl
        by_cases c0 : (chan im x).1 = 0
        · have c0' : ((chan im x).1 != 0) = false := by simpa using c0
          by_cases t1 : ticks < 1
          · exact .inl ⟨.inr (.inr (.inr (.inr (.inl t1)))), 2, by decide, by simp only [d13, d43, d44, lt, h96, x1, x2, r1, r2, ec, c0', z0, z1, Option.bind_some, decide_false, decide_true, Bool.false_eq_true, if_false, if_true, t1]⟩
          · by_cases t2 : ticks > 1099511627776
            · exact .inl ⟨.inr (.inr (.inr (.inr (.inr t2)))), 2, by decide, by simp only [d13, d43, d44, lt, h96, x1, x2, r1, r2, ec, c0', z0, z1, Option.bind_some, decide_false, decide_true, Bool.false_eq_true, if_false, if_true, t1, t2]⟩
            · refine .inr ⟨?_, ?_⟩
              · rintro (h | h | h | h | h | h)
                · exact h hc
                · exact x1 h
                · exact x2 h
                · exact h c0
                · exact t1 h
                · exact t2 h
              · simp only [d13, d43, d44, lt, h96, x1, x2, r1, r2, ec, c0', z0, z1, Option.bind_some, decide_false, decide_true, Bool.false_eq_true, if_false, if_true, t1, t2]
                rw [wrap_id (z := ticks - 1) (by omega) (by omega)]
        · have c0' : ((chan im x).1 != 0) = true := by simpa using c0
          exact .inl ⟨.inr (.inr (.inr (.inl c0))), 2, by decide, by simp only [d13, d43, lt, h96, x1, x2, r1, r2, ec, c0', z0, z1, Option.bind_some, decide_false, decide_true, Bool.false_eq_true, if_false, if_true]⟩
  · exact .inl ⟨.inl hc, e, he, by simp only [d13, d43, lt, h96, ne0 he, Option.bind_some, if_true]⟩

/-! ### AgeFresh -/
theorem fresh_mem (k0 : Nat) (X : Unit × (List Int × (Int × (Int × (Int × (Int × (Int × (Int × (Bool × Unit)))))))) → Option ((Bool × Unit) × Unit)) (ts : List Int) (hl : ts.length ≤ 1000) (i ticks at_ old A B : Int) (hX : ∀ b, X ((), (ts, (ticks, (at_, (old, (i, (A, (B, (b, ())))))))))  = some ((true, ()), ())) : ∀ (m j k : Nat) (b : Bool), j + m = ts.length → m < k →
    loopN (d3_L10 X) k ((), ((j : Int), (i, (ts, (b, (ticks, (at_, (old, (A, (B, ())))))))))) = some ((true, ()), ()) := by
  intro m
  induction m with
  | zero =>
    intro j k b hj hk
    obtain ⟨k, rfl⟩ : ∃ k', k = k' + 1 := ⟨k - 1, by omega⟩
    simp only [loopN, d3_L10, lt, dnlt (show ts.length ≤ j by omega), Bool.false_eq_true, if_false, hX]
  | succ m ih =>
    intro j k b hj hk
    obtain ⟨k, rfl⟩ : ∃ k', k = k' + 1 := ⟨k - 1, by omega⟩
    have h1 : j < ts.length := by omega
    simp only [loopN, d3_L10, lt, shr, dlt h1, dge0, Bool.and_self, if_true, Bool.or_true, d3_K9, wr1 (show j < 4611686018427387904 by omega)]
    exact ih (j + 1) k _ (by omega) (by omega)
theorem fresh_at (k0 : Nat) (hk0 : 1048600 < k0) (ts : List Int) (hl : ts.length ≤ 1000) (at_ ticks B A : Int) (t1 : 1 ≤ ticks) (t2 : ticks ≤ 1099511627776) : ∀ (m j k : Nat), j + m = ts.length → m < k →
    loopN (d3_L3 k0 (d3_K1 k0)) k ((), ((j : Int), (at_, (ts, (ticks, (ticks - 1, (B, (A, ())))))))) = some ((true, ()), ()) := by
  intro m
  induction m with
  | zero =>
    intro j k hj hk
    obtain ⟨k, rfl⟩ : ∃ k', k = k' + 1 := ⟨k - 1, by omega⟩
    simp only [loopN, d3_L3, lt, dnlt (show ts.length ≤ j by omega), Bool.false_eq_true, if_false, d3_K1, lives hk0]
    rw [wrap_id (z := ticks - 1) (by omega) (by omega)]
    generalize IntKind.wrap .i64 (at_ - B) = q
    by_cases a : A < 0
    · simp [a]
    · by_cases b : q ≥ ticks
      · simp [a, b]
      · have c : q ≤ ticks - 1 := by omega
        have c' : decide (q ≤ ticks - 1) = true := decide_eq_true c
        have d : decide (q ≥ ticks) = false := decide_eq_false b
        have a' : decide (A < 0) = false := decide_eq_false a
        have e : (ticks - 1 == ticks - 1) = true := by simp
        simp only [a', c', d, e, Bool.false_eq_true, if_false, if_true, Bool.and_self, beq_self_eq_true, Option.bind_some]
  | succ m ih =>
    intro j k hj hk
    obtain ⟨k, rfl⟩ : ∃ k', k = k' + 1 := ⟨k - 1, by omega⟩
    have h1 : j < ts.length := by omega
    simp only [loopN, d3_L3, lt, shr, dlt h1, dge0, Bool.and_self, if_true, lives hk0, Option.bind_some, d3_K2, wr1 (show j < 4611686018427387904 by omega)]
    split
    · rfl
    · exact ih (j + 1) k (by omega) (by omega)
theorem fresh_loop (k0 : Nat) (hk0 : 1048600 < k0) (ts : List Int) (hl : ts.length ≤ 1000) (at_ ticks : Int) (a2 : at_ ≤ 100000) (t1 : 1 ≤ ticks) (t2 : ticks ≤ 1099511627776) : ∀ (m : Nat) (i A B : Int) (k : Nat), 0 ≤ i → i + (m : Int) = at_ → m < k →
    loopN (d3_L11 k0 (d3_K4 k0)) k ((), (i, (ts, (ticks, (A, (B, (at_, (ticks - 1, ())))))))) = some ((true, ()), ()) := by
  intro m
  induction m with
  | zero =>
    intro i A B k hi hm hk
    obtain ⟨k, rfl⟩ : ∃ k', k = k' + 1 := ⟨k - 1, by omega⟩
    have g : decide (i < at_) = false := decide_eq_false (by omega)
    simp only [loopN, d3_L11, lt, g, Bool.false_eq_true, if_false, d3_K4, shr]
    exact fresh_at k0 hk0 ts hl at_ ticks _ _ t1 t2 ts.length 0 k0 (by omega) (by omega)
  | succ m ih =>
    intro i A B k hi hm hk
    obtain ⟨k, rfl⟩ : ∃ k', k = k' + 1 := ⟨k - 1, by omega⟩
    have g : decide (i < at_) = true := decide_eq_true (by omega)
    simp only [loopN, d3_L11, lt, g, if_true, shr]
    refine fresh_mem k0 _ ts hl i ticks at_ (ticks - 1) A B ?_ ts.length 0 k0 false (by omega) (by omega)
    intro b
    have step : ∀ A' B' : Int, d3_K6 k0 (d3_K5 (loopN (d3_L11 k0 (d3_K4 k0)) k)) ((), (ts, (ticks, (A', (B', (at_, (ticks - 1, (i, ())))))))) = some ((true, ()), ()) := by
      intro A' B'
      simp only [d3_K6, lt, lives hk0, Option.bind_some, d3_K5]
      rw [wrap_id (z := i + 1) (by omega) (by omega)]
      have hih := ih (i + 1) A' B' k (by omega) (by omega) (by omega)
      cases decide (A' ≥ 0) <;> cases decide (IntKind.wrap .i64 (i - B') ≥ ticks) <;> simp only [Bool.false_eq_true, if_false, if_true] <;> first | rfl | exact hih
    simp only [d3_K8, lt, shr, d3_K7, step]
    cases b <;> simp
theorem d3_eq (k : Nat) (im : IM) (hf : Fits k im) (x ticks at_ : Int) (ts : List Int) : d3 k (im, (x, (ticks, (ts, (at_, ()))))) = some ((true, ()), ()) := by
  have hk := hf.fuel
  have z0 : ((0 : Int) != 0) = false := rfl
  have z1 : ((0 : Int) == 0) = true := rfl
  -- a bad call: an error, and no age
  have bad : ∀ e, e ≠ (0 : Int) → (Option.bind (if (((if ((e : Int) != 0) = true then ((0 : Int) == 0) else false) == true) && true) = true then d15 k () else some ((false, ()), ())) fun x21 => lt x21 fun x21 => some (((if (if ((e : Int) != 0) = true then ((0 : Int) == 0) else false) = true then x21.1.1 else false), ()), ())) = some ((true, ()), ()) := by
    intro e he
    simp [ne0 he, lives hk, lt]
  rcases d13_eq k im hf x ticks with ⟨hb, e, he, h13⟩ | ⟨hb, h13⟩
  · rcases d14_eq k im hf with ⟨hc, h14⟩ | ⟨hc, e2, p2, he2, h14⟩
    · by_cases x1 : x < 1
      · simp [d3, lt, h13, h14, x1, lives hk, he]
      · by_cases x2 : x > (im.2.2.1.length : Int)
        · simp [d3, lt, h13, h14, x1, x2, lives hk, he]
        · obtain ⟨r1, r2⟩ := xr x1 x2 hc.nchans
          have ec : im.2.2.1.getD (x - 1).toNat (0, (0, (([] : List Int), (0, (0, ()))))) = chan im x := rfl
          by_cases c0 : (chan im x).1 = 0
          · have c0' : ((chan im x).1 != 0) = false := by simpa using c0
            rcases hb with h | h | h | h | h | h
            · exact absurd hc h
            · exact absurd h x1
            · exact absurd h x2
            · exact absurd c0 h
            · simp only [d3, lt, h13, h14, x1, x2, r1, r2, ec, c0', z0, z1, ne0 he, lives hk, Option.bind_some, decide_false, decide_true, Bool.false_eq_true, if_false, if_true, h, Bool.or_true, beq_self_eq_true, Bool.and_self]
            · have h' : ¬ ticks < 1 := by omega
              simp only [d3, lt, h13, h14, x1, x2, r1, r2, ec, c0', z0, z1, ne0 he, lives hk, Option.bind_some, decide_false, decide_true, Bool.false_eq_true, if_false, if_true, h, h', Bool.or_true, beq_self_eq_true, Bool.and_self]
          · have c0' : ((chan im x).1 != 0) = true := by simpa using c0
            simp only [d3, lt, h13, h14, x1, x2, r1, r2, ec, c0', z0, z1, ne0 he, lives hk, Option.bind_some, decide_false, decide_true, Bool.false_eq_true, if_false, if_true, Bool.or_true, beq_self_eq_true, Bool.and_self]
    · simp [d3, lt, h13, h14, lives hk, he, he2]
  · have hb' : CheckOk im ∧ ¬ x < 1 ∧ ¬ x > (im.2.2.1.length : Int) ∧ (chan im x).1 = 0 ∧ ¬ ticks < 1 ∧ ¬ ticks > 1099511627776 := by
      unfold badAge at hb
      simpa only [not_or, Classical.not_not, ne_eq] using hb
    obtain ⟨hc, x1, x2, c0, t1, t2⟩ := hb'
    have c0' : ((chan im x).1 != 0) = false := by simpa using c0
    obtain ⟨r1, r2⟩ := xr x1 x2 hc.nchans
    have ec : im.2.2.1.getD (x - 1).toNat (0, (0, (([] : List Int), (0, (0, ()))))) = chan im x := rfl
    rcases d14_eq k im hf with ⟨_, h14⟩ | ⟨hc', _⟩
    rotate_left
    · exact absurd hc hc'
    simp only [d3, lt, h13, h14, x1, x2, r1, r2, ec, c0', z0, z1, Option.bind_some, decide_false, decide_true, Bool.false_eq_true, if_false, if_true, t1, t2, Bool.or_true]
    by_cases l1 : (ts.length : Int) > 1000
    · simp [l1]
    · by_cases a1 : at_ < 0
      · simp [a1]
      · by_cases a2 : at_ > 100000
        · simp [a2]
        · simp only [l1, a1, a2, decide_false, Bool.false_eq_true, if_false, shr]
          exact fresh_loop k hk ts (by omega) at_ ticks (by omega) (by omega) (by omega) at_.toNat 0 (-1) (-1) k (by omega) (by omega) (by omega)
end Go.Proofs.YtekgngedamnmaaaGreatDoor.L
