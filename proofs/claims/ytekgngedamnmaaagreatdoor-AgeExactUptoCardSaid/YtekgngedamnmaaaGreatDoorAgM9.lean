import Derived.Test.YtekgngedamnmaaaGreatDoorAgM8
namespace Go.Proofs.YtekgngedamnmaaaGreatDoor.L
open Go Go.Lift
set_option linter.unusedVariables false
set_option linter.unusedSimpArgs false
set_option maxRecDepth 100000

/-! ### the document's rules of a channel -/
def hits (out : Bool) (t : Int) (d : CH) : Bool := if out then d.2.1 == t else d.2.2.1.any (fun u => u == t)
theorem d137_in (X : (IM × Unit) × (Int × (Bool × (Int × (Int × Unit)))) → Option ((Bool × Unit) × Unit)) (d : CH) (im : IM) (t : Int) (out : Bool) (b n : Int) (hl : d.2.2.1.length < 4611686018427387904) : ∀ (m j k : Nat), j + m = d.2.2.1.length → m < k →
    loopN (d137_L4 X) k ((d, (im, ())), ((j : Int), (t, (out, (b, (n, ())))))) = if (!out && (d.2.2.1.drop j).any (fun u => u == t)) = true then some ((true, ()), ()) else X ((im, ()), (t, (out, (b, (n, ()))))) := by
  intro m
  induction m with
  | zero =>
    intro j k hj hk
    obtain ⟨k, rfl⟩ : ∃ k', k = k' + 1 := ⟨k - 1, by omega⟩
    rw [List.drop_eq_nil_of_le (by omega)]
    simp only [loopN, d137_L4, lt, dnlt (show d.2.2.1.length ≤ j by omega), Bool.false_eq_true, if_false, List.any_nil, Bool.and_false]
  | succ m ih =>
    intro j k hj hk
    obtain ⟨k, rfl⟩ : ∃ k', k = k' + 1 := ⟨k - 1, by omega⟩
    have h1 : j < d.2.2.1.length := by omega
    have hih := ih (j + 1) k (by omega) (by omega)
    rw [List.drop_eq_getElem_cons h1, List.any_cons]
    cases out with
    | true => simp only [loopN, d137_L4, lt, dlt h1, if_true, Bool.not_true, Bool.false_eq_true, if_false, Bool.false_and]
    | false =>
      simp only [loopN, d137_L4, lt, shr, dlt h1, dge0, Bool.and_self, if_true, Int.toNat_natCast, getD_mem h1, d137_K3, Bool.not_false, wr1 (show j < 4611686018427387904 by omega), hih, Bool.true_and]
      cases (d.2.2.1[j] == t) <;> simp
theorem d137_loop (k0 : Nat) (K : Unit × Unit → Option ((Bool × Unit) × Unit)) (im : IM) (t : Int) (out : Bool) (b : Nat) (hb : b ≤ im.2.2.1.length) (hl : im.2.2.1.length ≤ 64) (hk0 : ∀ d, d ∈ im.2.2.1 → d.2.2.1.length < k0 ∧ d.2.2.1.length < 4611686018427387904) : ∀ (m n k : Nat), n + m = b → m < k →
    loopN (d137_L5 k0 K) k ((im, ()), (t, ((n : Int), (out, ((b : Int), ()))))) = if (((im.2.2.1.take b).drop n).any (hits out t)) = true then some ((true, ()), ()) else K ((), ()) := by
  intro m
  induction m with
  | zero =>
    intro n k hn hk
    obtain ⟨k, rfl⟩ : ∃ k', k = k' + 1 := ⟨k - 1, by omega⟩
    rw [List.drop_eq_nil_of_le (by rw [List.length_take]; omega)]
    simp only [loopN, d137_L5, lt, dnlt (show b ≤ n by omega), Bool.false_eq_true, if_false, List.any_nil]
  | succ m ih =>
    intro n k hn hk
    obtain ⟨k, rfl⟩ : ∃ k', k = k' + 1 := ⟨k - 1, by omega⟩
    have h1 : n < im.2.2.1.length := by omega
    have h2 : n < (im.2.2.1.take b).length := by rw [List.length_take]; omega
    have hih := ih (n + 1) k (by omega) (by omega)
    obtain ⟨q1, q2⟩ := hk0 _ (List.getElem_mem h1)
    have hin := d137_in (d137_K2 (d137_K1 (loopN (d137_L5 k0 K) k))) im.2.2.1[n] im t out b n q2 im.2.2.1[n].2.2.1.length 0 k0 (by omega) q1
    rw [List.drop_zero] at hin
    rw [List.drop_eq_getElem_cons h2, List.any_cons, List.getElem_take]
    simp only [loopN, d137_L5, lt, shr, dlt (show n < b by omega), dlt h1, dge0, Bool.and_self, if_true, Int.toNat_natCast, getD_mem h1]
    cases out with
    | true =>
      simp only [if_true, hits] at hih ⊢
      cases he : (im.2.2.1[n].2.1 == t) with
      | true => simp
      | false =>
        simp only [Bool.false_eq_true, if_false, Bool.false_or]
        refine Eq.trans hin ?_
        simp only [Bool.not_true, Bool.false_and, Bool.false_eq_true, if_false, d137_K2, d137_K1, wr1 (show n < 4611686018427387904 by omega)]
        exact hih
    | false =>
      simp only [Bool.false_eq_true, if_false]
      refine Eq.trans hin ?_
      simp only [Bool.not_false, Bool.true_and, d137_K2, d137_K1, wr1 (show n < 4611686018427387904 by omega), hits, Bool.false_eq_true, if_false] at hih ⊢
      cases im.2.2.1[n].2.2.1.any (fun u => u == t) with
      | true => simp
      | false => simp only [Bool.false_eq_true, if_false, Bool.false_or]; exact hih
theorem d137_eq (k : Nat) (im : IM) (t : Int) (out : Bool) (b : Nat) (hb : b ≤ im.2.2.1.length) (hl : im.2.2.1.length ≤ 64) (h65 : 65 < k) (hk0 : ∀ d, d ∈ im.2.2.1 → d.2.2.1.length < k ∧ d.2.2.1.length < 4611686018427387904) :
    d137 k (im, ((b : Int), (t, (out, ())))) = some (((im.2.2.1.take b).any (hits out t), ()), ()) := by
  have := d137_loop k (fun _ => some ((false, ()), ())) im t out b hb hl hk0 b 0 k (by omega) (by omega)
  rw [List.drop_zero] at this
  simp only [d137, shr]
  refine Eq.trans this ?_
  cases (im.2.2.1.take b).any (hits out t) <;> rfl
theorem d103_eq (k : Nat) (im : IM) (i : Nat) (hi : i < im.2.2.1.length) (hl : im.2.2.1.length ≤ 64) (hp : im.2.1.length ≤ 64) (h65 : 65 < k) (hk0 : ∀ d, d ∈ im.2.2.1 → d.2.2.1.length < k ∧ d.2.2.1.length < 4611686018427387904) :
    d103 k (im, ((i : Int), ())) = some ((fromB im.2.1 (im.2.2.1.take i) im.2.2.1[i], ()), ()) := by
  simp only [d103, lt, dlt hi, dge0, Bool.and_self, if_true, Int.toNat_natCast, getD_mem hi, w97, Option.bind_some, fromB]
  cases h0 : (im.2.2.1[i].2.1 == 0) with
  | true =>
    simp only [if_true]
    have : decide (((im.2.2.1[i].2.2.1.length : Nat) : Int) > 0) = !(((im.2.2.1[i].2.2.1.length : Nat) : Int) == 0) := by
      rw [Bool.eq_iff_iff]; simp; exact List.length_pos_iff
    rw [this]
  | false =>
    simp only [Bool.false_eq_true, if_false]
    cases hw : wi im.2.2.1[i].2.1 1 (im.2.1.length : Int) with
    | false => simp
    | true =>
      have ep : im.2.1.getD (im.2.2.1[i].2.1 - 1).toNat (0, (0, (false, (0, (0, (0, ())))))) = port im.2.1 im.2.2.1[i].2.1 := rfl
      have hh : hits true im.2.2.1[i].2.1 = fun d => d.2.1 == im.2.2.1[i].2.1 := rfl
      simp only [wrm hw (by omega), inr hw, ep, Bool.not_true, Bool.false_eq_true, if_false, if_true, d137_eq k im im.2.2.1[i].2.1 true i (by omega) hl h65 hk0, hh]
      cases (port im.2.1 im.2.2.1[i].2.1).2.2.1 <;> cases ((port im.2.1 im.2.2.1[i].2.1).2.1 == im.2.2.1[i].1) <;> simp
theorem toB_cons (ps : List PO) (kd : Int) (used : Int → Bool) (prev size t : Int) (ts : List Int) : toB ps kd used prev size (t :: ts) = (wi t 1 (ps.length : Int) && decide (prev < t) && (!(port ps t).2.2.1 && ((port ps t).2.1 == kd) && (size == 0 || (port ps t).2.2.2.1 == size)) && !used t && toB ps kd used t (port ps t).2.2.2.1 ts) := rfl
theorem d104_loop (k0 : Nat) (K : Unit × Unit → Option ((Bool × Unit) × Unit)) (im : IM) (i : Nat) (hi : i < im.2.2.1.length) (hl : im.2.2.1.length ≤ 64) (hp : im.2.1.length ≤ 64) (h65 : 65 < k0) (hk0 : ∀ d, d ∈ im.2.2.1 → d.2.2.1.length < k0 ∧ d.2.2.1.length < 4611686018427387904) (c : CH) (hc : c.2.2.1.length < 4611686018427387904) : ∀ (m j k : Nat) (z : Int), j + m = c.2.2.1.length → m < k → (0 < j → 1 ≤ c.2.2.1.getD (j - 1) 0) →
    loopN (d104_L3 k0 K) k ((c, (im, ())), ((j : Int), ((i : Int), (z, ())))) = if toB im.2.1 c.1 (usedTo (im.2.2.1.take i)) (if j = 0 then 0 else c.2.2.1.getD (j - 1) 0) z (c.2.2.1.drop j) = true then K ((), ()) else some ((false, ()), ()) := by
  intro m
  induction m with
  | zero =>
    intro j k z hj hk hpos
    obtain ⟨k, rfl⟩ : ∃ k', k = k' + 1 := ⟨k - 1, by omega⟩
    rw [List.drop_eq_nil_of_le (by omega)]
    simp only [loopN, d104_L3, lt, dnlt (show c.2.2.1.length ≤ j by omega), Bool.false_eq_true, if_false, toB, if_true]
  | succ m ih =>
    intro j k z hj hk hpos
    obtain ⟨k, rfl⟩ : ∃ k', k = k' + 1 := ⟨k - 1, by omega⟩
    have h1 : j < c.2.2.1.length := by omega
    rw [List.drop_eq_getElem_cons h1]
    have ei : c.2.2.1.getD j 0 = c.2.2.1[j] := getD_mem h1 0
    have hgi : decide ((j : Int) > 0) = decide (j > 0) := by
      rw [Bool.eq_iff_iff]; simp
    have hin : (Bool.not ((decide (j > 0) == true) && ((!wi c.2.2.1[j] 1 (im.2.1.length : Int)) == false && true)) || (decide ((0 : Int) ≤ IntKind.wrap .i64 ((j : Int) - 1)) && decide (IntKind.wrap .i64 ((j : Int) - 1) < ((c.2.2.1.length : Nat) : Int)))) = true := by
      by_cases h0 : j = 0
      · subst h0; rfl
      · rw [wrap_id (by omega) (by omega)]
        have a : decide ((0 : Int) ≤ (j : Int) - 1) = true := decide_eq_true (by omega)
        have b : decide ((j : Int) - 1 < ((c.2.2.1.length : Nat) : Int)) = true := decide_eq_true (by omega)
        rw [a, b]; simp
    have hat' : (if decide (j > 0) = true then decide (c.2.2.1[j] ≤ c.2.2.1.getD (IntKind.wrap .i64 ((j : Int) - 1)).toNat 0) else false) = (decide (j > 0) && decide (c.2.2.1[j] ≤ c.2.2.1.getD (j - 1) 0)) := by
      by_cases h0 : j = 0
      · subst h0; rfl
      · rw [wrap_id (by omega) (by omega), show ((j : Int) - 1).toNat = j - 1 by omega]
        cases decide (j > 0) <;> rfl
    simp only [loopN, d104_L3, lt, shr, dlt h1, dge0, Bool.and_self, if_true, Int.toNat_natCast, ei, hgi, w97, Option.bind_some, hin, Bool.or_true]
    rw [hat']
    rw [toB_cons]
    rcases Bool.eq_false_or_eq_true (wi c.2.2.1[j] 1 (im.2.1.length : Int)) with hw | hw
    rotate_left
    · simp [hw]
    · have hw' := hw
      rw [wi_iff] at hw'
      have ea : decide ((if j = 0 then 0 else c.2.2.1.getD (j - 1) 0) < c.2.2.1[j]) = !(decide (j > 0) && decide (c.2.2.1[j] ≤ c.2.2.1.getD (j - 1) 0)) := by
        by_cases h0 : j = 0
        · subst h0
          rw [if_pos rfl]
          have : decide ((0 : Nat) > 0) = false := rfl
          rw [this, Bool.false_and, Bool.not_false]
          exact decide_eq_true (by omega)
        · rw [if_neg h0]
          have : decide (j > 0) = true := decide_eq_true (by omega)
          rw [this, Bool.true_and, Bool.eq_iff_iff]
          simp
      rw [ea]
      rcases Bool.eq_false_or_eq_true (decide (j > 0) && decide (c.2.2.1[j] ≤ c.2.2.1.getD (j - 1) 0)) with hb | hb
      · simp only [hb, hw]; simp
      · rw [hb]
        have ep : im.2.1.getD (c.2.2.1[j] - 1).toNat (0, (0, (false, (0, (0, (0, ())))))) = port im.2.1 c.2.2.1[j] := rfl
        have hd := d137_eq k0 im c.2.2.1[j] false i (by omega) hl h65 hk0
        have hh : (im.2.2.1.take i).any (hits false c.2.2.1[j]) = usedTo (im.2.2.1.take i) c.2.2.1[j] := rfl
        rw [hh] at hd
        have hs := ih (j + 1) k (port im.2.1 c.2.2.1[j]).2.2.2.1 (by omega) (by omega) (fun _ => by rw [show j + 1 - 1 = j by omega, ei]; exact hw'.1)
        rw [if_neg (show ¬ (j + 1 = 0) by omega), show j + 1 - 1 = j by omega, ei] at hs
        have n1 : ((port im.2.1 c.2.2.1[j]).2.1 != c.1) = !((port im.2.1 c.2.2.1[j]).2.1 == c.1) := rfl
        simp only [hw, Bool.not_true, Bool.false_eq_true, if_false, if_true, wrm hw (by omega), inr hw, ep, d104_K2, lt, d104_K1, dlt h1, dge0, Bool.and_self, Int.toNat_natCast, ei, hd, Bool.or_true, wr1 (show j < 4611686018427387904 by omega), n1, Bool.not_false, Bool.true_and]
        cases hz : (z == 0) with
        | true =>
          have z0 : z = 0 := by simpa using hz
          have n2 : ((port im.2.1 c.2.2.1[j]).2.2.2.1 != (port im.2.1 c.2.2.1[j]).2.2.2.1) = false := by simp
          simp only [if_true, n2, Bool.true_or, Bool.and_true]
          cases (port im.2.1 c.2.2.1[j]).2.2.1 with
          | true => simp
          | false =>
            cases ((port im.2.1 c.2.2.1[j]).2.1 == c.1) with
            | false => simp
            | true =>
              cases usedTo (im.2.2.1.take i) c.2.2.1[j] with
              | true => simp
              | false => simpa using hs
        | false =>
          have n2 : ((port im.2.1 c.2.2.1[j]).2.2.2.1 != z) = !((port im.2.1 c.2.2.1[j]).2.2.2.1 == z) := rfl
          simp only [Bool.false_eq_true, if_false, n2, Bool.false_or]
          cases (port im.2.1 c.2.2.1[j]).2.2.1 with
          | true => simp
          | false =>
            cases ((port im.2.1 c.2.2.1[j]).2.1 == c.1) with
            | false => simp
            | true =>
              cases hq : ((port im.2.1 c.2.2.1[j]).2.2.2.1 == z) with
              | false => simp
              | true =>
                have hq : (port im.2.1 c.2.2.1[j]).2.2.2.1 = z := by simpa using hq
                rw [hq] at hs ⊢
                cases usedTo (im.2.2.1.take i) c.2.2.1[j] with
                | true => simp
                | false => simpa using hs
theorem d104_eq (k : Nat) (im : IM) (i : Nat) (hi : i < im.2.2.1.length) (hl : im.2.2.1.length ≤ 64) (hp : im.2.1.length ≤ 64) (h65 : 65 < k) (hk0 : ∀ d, d ∈ im.2.2.1 → d.2.2.1.length < k ∧ d.2.2.1.length < 4611686018427387904) (hf : fromB im.2.1 (im.2.2.1.take i) im.2.2.1[i] = true) :
    d104 k (im, ((i : Int), ())) = some ((toB im.2.1 im.2.2.1[i].1 (usedTo (im.2.2.1.take i)) 0 (startSize im.2.1 im.2.2.1[i]) im.2.2.1[i].2.2.1, ()), ()) := by
  obtain ⟨q1, q2⟩ := hk0 _ (List.getElem_mem hi)
  have hloop := fun z => d104_loop k (fun _ => some ((true, ()), ())) im i hi hl hp h65 hk0 im.2.2.1[i] q2 im.2.2.1[i].2.2.1.length 0 k z (by omega) q1 (fun h => by omega)
  have fin : ∀ b : Bool, (if b = true then (fun _ : Unit × Unit => (some ((true, ()), ()) : Option ((Bool × Unit) × Unit))) ((), ()) else some ((false, ()), ())) = some ((b, ()), ()) := by intro b; cases b <;> rfl
  simp only [d104, lt, shr, dlt hi, dge0, Bool.and_self, if_true, Int.toNat_natCast, getD_mem hi]
  cases h0 : (im.2.2.1[i].2.1 == 0) with
  | true =>
    have e0 : im.2.2.1[i].2.1 = 0 := by simpa using h0
    have g0 : decide (im.2.2.1[i].2.1 > 0) = false := by rw [e0]; rfl
    simp only [g0, Bool.false_eq_true, if_false, d104_K4, shr, startSize, h0, if_true]
    have := hloop 0
    rw [List.drop_zero, if_pos (show (0 : Nat) = 0 from rfl)] at this
    exact this.trans (fin _)
  | false =>
    have hw : wi im.2.2.1[i].2.1 1 (im.2.1.length : Int) = true := by
      simp only [fromB, h0, Bool.false_eq_true, if_false, Bool.and_eq_true] at hf
      exact hf.1.1
    have hw' := hw
    rw [wi_iff] at hw'
    have g0 : decide (im.2.2.1[i].2.1 > 0) = true := decide_eq_true (by omega)
    have ep : im.2.1.getD (im.2.2.1[i].2.1 - 1).toNat (0, (0, (false, (0, (0, (0, ())))))) = port im.2.1 im.2.2.1[i].2.1 := rfl
    simp only [g0, if_true, wrm hw (by omega), inr hw, ep, d104_K4, shr, startSize, h0, Bool.false_eq_true, if_false]
    have := hloop (port im.2.1 im.2.2.1[i].2.1).2.2.2.1
    rw [List.drop_zero, if_pos (show (0 : Nat) = 0 from rfl)] at this
    exact this.trans (fin _)
theorem d51_eq (k : Nat) (im : IM) (i : Nat) (hi : i < im.2.2.1.length) (hl : im.2.2.1.length ≤ 64) (hp : im.2.1.length ≤ 64) (h65 : 65 < k) (hk0 : ∀ d, d ∈ im.2.2.1 → d.2.2.1.length < k ∧ d.2.2.1.length < 4611686018427387904) :
    d51 k (im, ((i : Int), ())) = some ((chanB im.2.1 (im.2.2.1.take i) im.2.2.1[i], ()), ()) := by
  simp only [d51, lt, dlt hi, dge0, Bool.and_self, if_true, Int.toNat_natCast, getD_mem hi, w97, Option.bind_some, chanB, d103_eq k im i hi hl hp h65 hk0]
  cases hw : wi im.2.2.1[i].1 0 1 with
  | false => simp
  | true =>
    cases hf : fromB im.2.1 (im.2.2.1.take i) im.2.2.1[i] with
    | false => simp
    | true =>
      simp only [d104_eq k im i hi hl hp h65 hk0 hf]
      cases ht : toB im.2.1 im.2.2.1[i].1 (usedTo (im.2.2.1.take i)) 0 (startSize im.2.1 im.2.2.1[i]) im.2.2.1[i].2.2.1 with
      | false => simp
      | true =>
        have e1 : (if (im.2.2.1[i].1 == 1) = true then im.2.2.1[i].2.1 != 0 else false) = (im.2.2.1[i].1 == 1 && im.2.2.1[i].2.1 != 0) := by cases (im.2.2.1[i].1 == 1) <;> rfl
        simp only [e1, rateB]
        cases (im.2.2.1[i].1 == 1 && im.2.2.1[i].2.1 != 0) with
        | true =>
          cases hw : wi im.2.2.1[i].2.2.2.2.1 1 1048576 with
          | true => rw [wrp hw]; simp
          | false => simp
        | false =>
          cases (im.2.2.1[i].2.2.2.2.1 == 0) <;> simp
end Go.Proofs.YtekgngedamnmaaaGreatDoor.L
