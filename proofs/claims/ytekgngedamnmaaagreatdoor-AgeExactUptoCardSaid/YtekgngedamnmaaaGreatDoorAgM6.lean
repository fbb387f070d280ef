import Derived.Test.YtekgngedamnmaaaGreatDoorAgM5
namespace Go.Proofs.YtekgngedamnmaaaGreatDoor.L
open Go Go.Lift
set_option linter.unusedVariables false
set_option linter.unusedSimpArgs false
set_option maxRecDepth 100000

/-! ### the document's rules of a part -/
theorem sem_loop (k0 : Nat) (K : (PT × Unit) × Unit → Option ((Bool × Unit) × Unit)) (p : PT) (hl : p.2.2.2.2.2.2.2.2.1.length ≤ 8) : ∀ (m i k : Nat), i + m = p.2.2.2.2.2.2.2.2.1.length → m < k →
    loopN (d101_L5 k0 K) k ((p, ()), ((i : Int), ())) = if (p.2.2.2.2.2.2.2.2.1.drop i).all semB = true then K ((p, ()), ()) else some ((false, ()), ()) := by
  intro m
  induction m with
  | zero =>
    intro i k hi hk
    obtain ⟨k, rfl⟩ : ∃ k', k = k' + 1 := ⟨k - 1, by omega⟩
    rw [List.drop_eq_nil_of_le (by omega)]
    simp only [loopN, d101_L5, lt, dnlt (show p.2.2.2.2.2.2.2.2.1.length ≤ i by omega), Bool.false_eq_true, if_false, List.all_nil, if_true]
  | succ m ih =>
    intro i k hi hk
    obtain ⟨k, rfl⟩ : ∃ k', k = k' + 1 := ⟨k - 1, by omega⟩
    have h1 : i < p.2.2.2.2.2.2.2.2.1.length := by omega
    have hih := ih (i + 1) k (by omega) (by omega)
    rw [List.drop_eq_getElem_cons h1, List.all_cons]
    simp only [loopN, d101_L5, lt, shr, dlt h1, dge0, Bool.and_self, if_true, Int.toNat_natCast, getD_mem h1, w97, Option.bind_some, d101_K4, wr1 (show i < 4611686018427387904 by omega), hih, Bool.or_true, semB]
    rcases Bool.eq_false_or_eq_true (wi (p.2.2.2.2.2.2.2.2.1[i]).2.1 1 2147483647) with g1 | g1 <;> rcases Bool.eq_false_or_eq_true (wi (p.2.2.2.2.2.2.2.2.1[i]).1 0 (p.2.2.2.2.2.2.2.2.1[i]).2.1) with g2 | g2 <;> simp only [g1, g2, Bool.false_eq_true, if_false, if_true, Bool.not_true, Bool.not_false, Bool.false_and, Bool.true_and, Bool.and_false, Bool.and_true] <;> rfl
theorem buf_loop (k0 : Nat) (K : Unit × Unit → Option ((Bool × Unit) × Unit)) (p : PT) (hl : p.2.2.2.2.2.2.2.2.2.2.1.length ≤ 8) : ∀ (m i k : Nat), i + m = p.2.2.2.2.2.2.2.2.2.2.1.length → m < k →
    loopN (d101_L2 k0 K) k ((p, ()), ((i : Int), ())) = if (p.2.2.2.2.2.2.2.2.2.2.1.drop i).all bufB = true then K ((), ()) else some ((false, ()), ()) := by
  intro m
  induction m with
  | zero =>
    intro i k hi hk
    obtain ⟨k, rfl⟩ : ∃ k', k = k' + 1 := ⟨k - 1, by omega⟩
    rw [List.drop_eq_nil_of_le (by omega)]
    simp only [loopN, d101_L2, lt, dnlt (show p.2.2.2.2.2.2.2.2.2.2.1.length ≤ i by omega), Bool.false_eq_true, if_false, List.all_nil, if_true]
  | succ m ih =>
    intro i k hi hk
    obtain ⟨k, rfl⟩ : ∃ k', k = k' + 1 := ⟨k - 1, by omega⟩
    have h1 : i < p.2.2.2.2.2.2.2.2.2.2.1.length := by omega
    have hih := ih (i + 1) k (by omega) (by omega)
    rw [List.drop_eq_getElem_cons h1, List.all_cons]
    simp only [loopN, d101_L2, lt, shr, dlt h1, dge0, Bool.and_self, if_true, Int.toNat_natCast, getD_mem h1, w97, Option.bind_some, d101_K1, wr1 (show i < 4611686018427387904 by omega), hih, Bool.or_true, bufB]
    rcases Bool.eq_false_or_eq_true (wi (p.2.2.2.2.2.2.2.2.2.2.1[i]).1 1 16) with g1 | g1 <;> rcases Bool.eq_false_or_eq_true (wi (p.2.2.2.2.2.2.2.2.2.2.1[i]).2.1 1 64) with g2 | g2 <;> simp only [g1, g2, Bool.false_eq_true, if_false, if_true, Bool.not_true, Bool.not_false, Bool.false_and, Bool.true_and, Bool.and_false, Bool.and_true] <;> rfl
theorem d101_eq (k : Nat) (hk : 10 < k) (p : PT) (h1 : p.2.2.2.2.2.2.2.2.1.length ≤ 8) (h2 : p.2.2.2.2.2.2.2.2.2.2.1.length ≤ 8) : d101 k (p, ()) = some ((p.2.2.2.2.2.2.2.2.1.all semB && p.2.2.2.2.2.2.2.2.2.2.1.all bufB, ()), ()) := by
  have a1 := sem_loop k (d101_K3 k) p h1 p.2.2.2.2.2.2.2.2.1.length 0 k (by omega) (by omega)
  have a2 := buf_loop k (fun _ => some ((true, ()), ())) p h2 p.2.2.2.2.2.2.2.2.2.2.1.length 0 k (by omega) (by omega)
  rw [List.drop_zero] at a1 a2
  simp only [d101, shr]
  refine Eq.trans a1 ?_
  cases p.2.2.2.2.2.2.2.2.1.all semB with
  | false => simp
  | true =>
    simp only [if_true, d101_K3, shr, Bool.true_and]
    refine Eq.trans a2 ?_
    cases p.2.2.2.2.2.2.2.2.2.2.1.all bufB <;> simp
theorem heal_loop (k0 : Nat) (K : (PT × Unit) × Unit → Option ((Bool × Unit) × Unit)) (p : PT) (hl : p.2.2.2.2.2.2.2.1.length = 8) : ∀ (m i k : Nat), i + m = 8 → m < k →
    loopN (d102_L3 k0 K) k ((p, ()), ((i : Int), ())) = if ((p.2.2.2.2.2.2.2.1.drop i).all (fun a => wi a 0 5) && (decide (0 < i) || (p.2.2.2.2.2.2.2.1.getD 0 0 == 0))) = true then K ((p, ()), ()) else some ((false, ()), ()) := by
  intro m
  induction m with
  | zero =>
    intro i k hi hk
    obtain ⟨k, rfl⟩ : ∃ k', k = k' + 1 := ⟨k - 1, by omega⟩
    obtain rfl : i = 8 := by omega
    rw [List.drop_eq_nil_of_le (by omega)]
    have c : decide (((8 : Nat) : Int) < 8) = false := rfl
    simp only [loopN, d102_L3, lt, c, Bool.false_eq_true, if_false, List.all_nil]
    rfl
  | succ m ih =>
    intro i k hi hk
    obtain ⟨k, rfl⟩ : ∃ k', k = k' + 1 := ⟨k - 1, by omega⟩
    have h1 : i < p.2.2.2.2.2.2.2.1.length := by omega
    have c : decide ((i : Int) < 8) = true := decide_eq_true (by omega)
    have c2 : decide ((i : Int) < ((8 : Nat) : Int)) = true := decide_eq_true (by omega)
    have hih := ih (i + 1) k (by omega) (by omega)
    have e1 : decide (0 < i + 1) = true := decide_eq_true (by omega)
    rw [e1, Bool.true_or, Bool.and_true] at hih
    rw [List.drop_eq_getElem_cons h1, List.all_cons]
    simp only [loopN, d102_L3, lt, shr, c, c2, decide_eq_true h1, dge0, Bool.and_self, if_true, Int.toNat_natCast, getD_mem h1, w97, Option.bind_some, d102_K2, wr1 (show i < 4611686018427387904 by omega), hih, Bool.or_true]
    cases wi (p.2.2.2.2.2.2.2.1[i]) 0 5 with
    | false => simp
    | true =>
      rcases Nat.eq_zero_or_pos i with rfl | hp
      · have e0 : (((0 : Nat) : Int) == 0) = true := rfl
        rw [getD_mem h1]
        cases hz : (p.2.2.2.2.2.2.2.1[0] == 0) with
        | true =>
          have hn : (p.2.2.2.2.2.2.2.1[0] != 0) = false := by simpa using hz
          simp [e0, hn, hz]
        | false =>
          have hn : (p.2.2.2.2.2.2.2.1[0] != 0) = true := by simpa using hz
          simp [e0, hn, hz]
      · have e0 : ((i : Int) == 0) = false := by rw [beq_eq_false_iff_ne]; omega
        have e2 : decide (0 < i) = true := decide_eq_true hp
        simp [e0, e2]
theorem handw {h : Int} {n : Nat} (hz : (h == 0) = false) : wi h 0 (n : Int) = wi h 1 (n : Int) := by
  have : h ≠ 0 := by rw [beq_eq_false_iff_ne] at hz; exact hz
  rw [Bool.eq_iff_iff, wi_iff, wi_iff]; omega
theorem d102_eq (k : Nat) (hk : 10 < k) (p : PT) (hl : p.2.2.2.2.2.2.2.1.length = 8) (hp : p.2.2.2.2.2.1.length ≤ 16) : d102 k (p, ()) = some ((healB p.2.2.2.2.2.2.2.1 && handB p.2.2.2.2.2.2.1 p.2.2.2.2.2.1, ()), ()) := by
  have a1 := heal_loop k (d102_K1 k) p hl 8 0 k (by omega) (by omega)
  rw [List.drop_zero] at a1
  have a2 : d102_K1 k ((p, ()), ()) = some ((handB p.2.2.2.2.2.2.1 p.2.2.2.2.2.1, ()), ()) := by
    simp only [d102_K1, lt, w97, Option.bind_some, handB]
    cases h0 : (p.2.2.2.2.2.2.1 == 0) with
    | true =>
      have : p.2.2.2.2.2.2.1 = 0 := by simpa using h0
      have e : wi p.2.2.2.2.2.2.1 0 (p.2.2.2.2.2.1.length : Int) = true := wi_iff.2 (by omega)
      simp [e]
    | false =>
      rw [handw h0]
      cases hw : wi p.2.2.2.2.2.2.1 1 (p.2.2.2.2.2.1.length : Int) with
      | false => simp
      | true =>
        obtain ⟨e1, e2⟩ := handN (by omega) hw
        simp only [e1, e2, if_true, Bool.not_true, Bool.false_eq_true, if_false, Bool.false_or, Bool.true_and]
        cases (p.2.2.2.2.2.1.getD (p.2.2.2.2.2.2.1 - 1).toNat pc0).2.2.1 == 0 <;> cases (p.2.2.2.2.2.1.getD (p.2.2.2.2.2.2.1 - 1).toNat pc0).2.2.2.1 == 0 <;> simp
  simp only [d102, shr]
  refine Eq.trans a1 ?_
  have e0 : (decide (0 < 0) || (p.2.2.2.2.2.2.2.1.getD 0 0 == 0)) = (p.2.2.2.2.2.2.2.1.getD 0 0 == 0) := rfl
  rw [e0, a2, healB, Bool.and_comm (p.2.2.2.2.2.2.2.1.getD 0 0 == 0)]
  split
  · rename_i h; rw [h, Bool.true_and]
  · rename_i h
    have h : ((p.2.2.2.2.2.2.2.1.all fun a => wi a 0 5) && p.2.2.2.2.2.2.2.1.getD 0 0 == 0) = false := by simpa using h
    rw [h, Bool.false_and]
theorem proc_loop (k0 : Nat) (K : (PT × Unit) × Unit → Option ((Int × Unit) × Unit)) (p : PT) (hl : p.2.2.2.2.2.1.length ≤ 16) : ∀ (m i k : Nat), i + m = p.2.2.2.2.2.1.length → m < k →
    loopN (d49_L3 k0 K) k ((p, ()), ((i : Int), ())) = if (p.2.2.2.2.2.1.drop i).all (procB (p.2.2.2.2.1.length : Int)) = true then K ((p, ()), ()) else some ((105, ()), ()) := by
  intro m
  induction m with
  | zero =>
    intro i k hi hk
    obtain ⟨k, rfl⟩ : ∃ k', k = k' + 1 := ⟨k - 1, by omega⟩
    rw [List.drop_eq_nil_of_le (by omega)]
    simp only [loopN, d49_L3, lt, dnlt (show p.2.2.2.2.2.1.length ≤ i by omega), Bool.false_eq_true, if_false, List.all_nil, if_true]
  | succ m ih =>
    intro i k hi hk
    obtain ⟨k, rfl⟩ : ∃ k', k = k' + 1 := ⟨k - 1, by omega⟩
    have h1 : i < p.2.2.2.2.2.1.length := by omega
    have hih := ih (i + 1) k (by omega) (by omega)
    rw [List.drop_eq_getElem_cons h1, List.all_cons]
    simp only [loopN, d49_L3, lt, shr, dlt h1, dge0, Bool.and_self, if_true, Int.toNat_natCast, getD_mem h1, d100_eq, Option.bind_some, d49_K2, wr1 (show i < 4611686018427387904 by omega), hih]
    cases g1 : procB (p.2.2.2.2.1.length : Int) (p.2.2.2.2.2.1[i]) <;> simp only [Bool.false_eq_true, if_false, if_true, Bool.not_true, Bool.not_false, Bool.false_and, Bool.true_and, Bool.and_false, Bool.and_true] <;> rfl
theorem d49_eq (k : Nat) (hk : 101 < k) (p : PT) (hs : sizesOk p) : (partB p = true ∧ d49 k (p, ()) = some ((0, ()), ())) ∨ (partB p = false ∧ ∃ e, e = partE p ∧ d49 k (p, ()) = some ((e, ()), ())) := by
  obtain ⟨z1, z2, z3, z4, z5, z6⟩ := sizes hs
  have a1 := proc_loop k (d49_K1 k) p z2 p.2.2.2.2.2.1.length 0 k (by omega) (by omega)
  rw [List.drop_zero] at a1
  have a2 := d101_eq k (by omega) p z3 z5
  have a3 := d102_eq k (by omega) p z6 z2
  have cb : ((p.2.2.2.2.1.length : Int) == 0) = !codeB p := by
    unfold codeB
    rw [Bool.eq_iff_iff]
    simp
  have ml : decide ((p.2.2.2.1.length : Int) > p.2.1) = !decide ((p.2.2.2.1.length : Int) ≤ p.2.1) := by
    rw [Bool.eq_iff_iff]; simp
  simp only [d49, lt, shr, w97, Option.bind_some, cb, ml, partB, partE, memB]
  cases wi p.2.2.1 0 p.2.1 with
  | false => exact .inr ⟨by simp, 110, (by simp [pE]), by simp⟩
  | true =>
    cases decide ((p.2.2.2.1.length : Int) ≤ p.2.1) with
    | false => exact .inr ⟨by simp, 110, (by simp [pE]), by simp⟩
    | true =>
      cases codeB p with
      | false => exact .inr ⟨by simp, 104, (by simp [pE]), by simp⟩
      | true =>
        simp only [Bool.not_true, Bool.false_eq_true, if_false]
        cases hp : p.2.2.2.2.2.1.all (procB (p.2.2.2.2.1.length : Int)) with
        | false =>
          rw [hp] at a1
          exact .inr ⟨by simp, 105, (by simp [pE]), a1.trans (by simp)⟩
        | true =>
          rw [hp] at a1
          have a1 := a1.trans (if_pos rfl)
          simp only [d49_K1, lt, a2, a3, Option.bind_some] at a1
          cases hb : (p.2.2.2.2.2.2.2.2.1.all semB && p.2.2.2.2.2.2.2.2.2.2.1.all bufB) with
          | false =>
            rw [hb] at a1
            exact .inr ⟨by simp, 106, (by simp [pE]), a1.trans (by simp)⟩
          | true =>
            rw [hb] at a1
            cases hh : (healB p.2.2.2.2.2.2.2.1 && handB p.2.2.2.2.2.2.1 p.2.2.2.2.2.1) with
            | false =>
              rw [hh] at a1
              exact .inr ⟨by simp, 109, (by simp [pE]), a1.trans (by simp)⟩
            | true =>
              rw [hh] at a1
              exact .inl ⟨by simp, a1.trans (by simp)⟩

/-! ### ports -/
def portB (n : Int) (q : PO) : Bool := wi q.1 1 n && wi q.2.1 0 1 && wi q.2.2.2.1 1 16 && (if q.2.1 == 1 then wi q.2.2.2.2.1 1 64 && (q.2.2.2.2.2.1 == 0) else if q.2.2.1 then (q.2.2.2.2.1 == 0) && (q.2.2.2.2.2.1 == 0) else (q.2.2.2.2.1 == 0) && wi q.2.2.2.2.2.1 0 1099511627775)
theorem d50_eq (k : Nat) (x : IM) (q : PO) : d50 k (x, (q, ())) = some ((portB (x.1.length : Int) q, ()), ()) := by
  simp only [d50, lt, w97, Option.bind_some, portB]
  cases wi q.1 1 (x.1.length : Int) with
  | false => simp
  | true =>
    cases wi q.2.1 0 1 with
    | false => simp
    | true =>
      cases wi q.2.2.2.1 1 16 with
      | false => simp
      | true =>
        cases (q.2.1 == 1) with
        | true => cases wi q.2.2.2.2.1 1 64 <;> simp
        | false =>
          cases q.2.2.1 with
          | true => cases (q.2.2.2.2.1 == 0) <;> simp
          | false => cases (q.2.2.2.2.1 == 0) <;> simp
theorem d156_eq (k : Nat) (q : PO) (n : Int) : d156 k (q, (n, ())) = some ((portB n q, ()), ()) := by
  have kind : wi q.2.1 0 1 = (q.2.1 == 1 || q.2.1 == 0) := by
    rw [Bool.eq_iff_iff, wi_iff]; simp; omega
  have ne : (q.2.1 != 0) = !(q.2.1 == 0) := rfl
  simp only [d156, lt, shr, w173, Option.bind_some, portB, kind, ne, d156_K2, d156_K3, d156_K1]
  cases h1 : (q.2.1 == 1) with
  | true =>
    cases wi q.2.2.2.2.1 1 64 <;> cases (q.2.2.2.2.2.1 == 0) <;> cases wi q.1 1 n <;> cases wi q.2.2.2.1 1 16 <;> simp
  | false =>
    cases h0 : (q.2.1 == 0) with
    | false => simp
    | true =>
      cases q.2.2.1 <;> cases wi q.2.2.2.2.2.1 0 1099511627775 <;> cases (q.2.2.2.2.2.1 == 0) <;> cases (q.2.2.2.2.1 == 0) <;> cases wi q.1 1 n <;> cases wi q.2.2.2.1 1 16 <;> simp
end Go.Proofs.YtekgngedamnmaaaGreatDoor.L
