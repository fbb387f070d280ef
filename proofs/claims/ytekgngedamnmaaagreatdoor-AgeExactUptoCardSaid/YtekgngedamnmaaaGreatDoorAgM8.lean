import Derived.Test.YtekgngedamnmaaaGreatDoorAgM7
namespace Go.Proofs.YtekgngedamnmaaaGreatDoor.L
open Go Go.Lift
set_option linter.unusedVariables false
set_option linter.unusedSimpArgs false
set_option maxRecDepth 100000

theorem toB_mem {ps : List PO} {kd : Int} {used : Int → Bool} : ∀ {ts : List Int} {prev size : Int}, toB ps kd used prev size ts = true → ∀ u, u ∈ ts → wi u 1 (ps.length : Int) = true ∧ (port ps u).2.2.1 = false ∧ (port ps u).2.1 = kd ∧ used u = false ∧ prev < u := by
  intro ts
  induction ts with
  | nil => intro prev size h u hu; cases hu
  | cons t ts ih =>
    intro prev size h u hu
    rw [toB, Bool.and_eq_true] at h
    have ht := h.1
    simp only [toOk, Bool.and_eq_true, decide_eq_true_eq] at ht
    obtain ⟨⟨⟨h1, h2⟩, ⟨h3, h4⟩, h5⟩, h6⟩ := ht
    rcases List.mem_cons.1 hu with rfl | hm
    · exact ⟨h1, by simpa using h3, by simpa using h4, by simpa using h6, h2⟩
    · obtain ⟨a, b, c, d, e⟩ := ih h.2 u hm
      exact ⟨a, b, c, d, by omega⟩
theorem marks_at (ts : List Int) : ∀ (F : List Bool) (t : Int), 1 ≤ t → F.length = 65 → (∀ u, u ∈ ts → 1 ≤ u ∧ u ≤ 64) → (marks F ts).getD t.toNat false = (F.getD t.toNat false || ts.any (fun u => u == t)) := by
  induction ts with
  | nil => intro F t _ _ _; simp [marks]
  | cons u ts ih =>
    intro F t ht hF hu
    have h1 := hu u (List.mem_cons_self ..)
    have := ih (F.set u.toNat true) t ht (by rw [List.length_set]; exact hF) (fun v hv => hu v (List.mem_cons_of_mem _ hv))
    rw [show marks F (u :: ts) = marks (F.set u.toNat true) ts from rfl, this, List.any_cons]
    by_cases e : u = t
    · subst e
      rw [List.getD_eq_getElem?_getD, List.getElem?_set_self (by omega)]
      simp
    · rw [List.getD_eq_getElem?_getD, List.getElem?_set_ne (by omega), ← List.getD_eq_getElem?_getD]
      have e2 : (u == t) = false := by rw [beq_eq_false_iff_ne]; exact e
      rw [e2, Bool.false_or]
/-- What check's marks know of the channels read. -/
def Inv (ps : List PO) (bef : List CH) (F : List Bool) : Prop :=
  F.length = 65 ∧ ∀ t : Int, 1 ≤ t → t ≤ (ps.length : Int) → F.getD t.toNat false = if (port ps t).2.2.1 = true then bef.any (fun d => d.2.1 == t) else usedTo bef t
theorem wrp {p : Int} (h : wi p 1 1048576 = true) : IntKind.wrap .i64 (p - 1) = p - 1 := wrm h (by omega)
theorem d157_K1_eq (k : Nat) (s : JS) (c : CH) : d157_K1 k ((s, (c, ())), ()) = some ((rateB c, ()), (s, ())) := by
  simp only [d157_K1, lt, w173, Option.bind_some, rateB]
  have e1 : (if (c.1 == 1) = true then c.2.1 != 0 else false) = (c.1 == 1 && c.2.1 != 0) := by cases (c.1 == 1) <;> rfl
  simp only [e1]
  cases (c.1 == 1 && c.2.1 != 0) with
  | true =>
    cases hw : wi c.2.2.2.2.1 1 1048576 with
    | true => rw [wrp hw]; simp
    | false => simp
  | false =>
    cases (c.2.2.2.2.1 == 0) <;> simp
theorem chan_step (k : Nat) (ps : List PO) (bef : List CH) (F : List Bool) (z : Int) (c : CH) (hp : ps.length ≤ 64) (hc : c.2.2.1.length < 4611686018427387904) (hk : c.2.2.1.length < k) (hI : Inv ps bef F) :
    (chanB ps bef c = true ∧ ∃ F' z', Inv ps (bef ++ [c]) F' ∧ d157 k ((ps, (F, (z, ()))), (c, ())) = some ((true, ()), ((ps, (F', (z', ()))), ()))) ∨
    (chanB ps bef c = false ∧ ∃ y, d157 k ((ps, (F, (z, ()))), (c, ())) = some ((false, ()), (y, ()))) := by
  obtain ⟨hF, hu⟩ := hI
  -- after the sender's port
  have fin : ∀ (F1 : List Bool) (z1 : Int), F1.length = 65 → wi c.1 0 1 = true → fromB ps bef c = true → z1 = startSize ps c →
      (∀ t : Int, 1 ≤ t → t ≤ (ps.length : Int) → F1.getD t.toNat false = if (port ps t).2.2.1 = true then (bef.any (fun d => d.2.1 == t) || c.2.1 == t) else usedTo bef t) →
      (chanB ps bef c = true ∧ ∃ F' z', Inv ps (bef ++ [c]) F' ∧ loopN (d157_L3 k (d157_K1 k)) k (((ps, (F1, (z1, ()))), (c, ())), (0, (c.2.2.1, (((c.2.2.1.length : Nat) : Int), ())))) = some ((true, ()), ((ps, (F', (z', ()))), ()))) ∨
      (chanB ps bef c = false ∧ ∃ y, loopN (d157_L3 k (d157_K1 k)) k (((ps, (F1, (z1, ()))), (c, ())), (0, (c.2.2.1, (((c.2.2.1.length : Nat) : Int), ())))) = some ((false, ()), (y, ()))) := by
    intro F1 z1 hF1 hk1 hf hz hu1
    have hl := to_loop k c (d157_K1 k) ps hp (usedTo bef) hc c.2.2.1.length 0 k F1 z1 (by omega) hk hF1 (fun h => by omega) (fun t t1 t2 _ t4 => by rw [hu1 t t1 t2, t4]; rfl)
    rw [List.drop_zero, if_pos rfl] at hl
    simp only [chanB, hk1, hf, Bool.true_and, hz.symm]
    rcases hl with ⟨h1, z', h2⟩ | ⟨h1, y, h2⟩
    · rw [h1, Bool.true_and]
      rw [d157_K1_eq] at h2
      cases hr : rateB c with
      | true =>
        rw [hr] at h2
        refine .inl ⟨rfl, marks F1 c.2.2.1, z', ⟨?_, ?_⟩, h2⟩
        · rw [marks_len]; exact hF1
        · intro t t1 t2
          rw [marks_at c.2.2.1 F1 t t1 hF1 (fun u hu => by
            have := (toB_mem h1 u hu).1
            rw [wi_iff] at this; omega), hu1 t t1 t2]
          cases ho : (port ps t).2.2.1 with
          | true =>
            have : c.2.2.1.any (fun u => u == t) = false := by
              rw [List.any_eq_false]
              intro u hu e
              have e : u = t := by simpa using e
              subst e
              have := (toB_mem h1 u hu).2.1
              rw [ho] at this; cases this
            simp [this]
          | false => simp [usedTo]
      | false => rw [hr] at h2; exact .inr ⟨rfl, _, h2⟩
    · rw [h1]; exact .inr ⟨rfl, y, h2⟩
  have e7 : (!wi c.1 0 1 || (c.2.1 == 0 && (((c.2.2.1.length : Nat) : Int) == 0))) = (if (Bool.not (wi c.1 0 1)) = true then true else (if (c.2.1 == 0) = true then (((c.2.2.1.length : Nat) : Int) == 0) else false)) := by
    cases wi c.1 0 1 <;> cases (c.2.1 == 0) <;> rfl
  simp only [d157, lt, shr, w173, Option.bind_some, ← e7]
  cases hw : wi c.1 0 1 with
  | false => exact .inr ⟨by simp [chanB, hw], (ps, (F, (0, ()))), by simp⟩
  | true =>
    cases h0 : (c.2.1 == 0) with
    | true =>
      have n0 : (c.2.1 != 0) = false := by rw [bne, h0]; rfl
      cases hl : (((c.2.2.1.length : Nat) : Int) == 0) with
      | true => exact .inr ⟨by simp [chanB, fromB, h0, hl], (ps, (F, (0, ()))), by simp [n0]⟩
      | false =>
        have := fin F 0 hF hw (by simp [fromB, h0, hl]) (by simp [startSize, h0]) (by
          intro t t1 t2
          rw [hu t t1 t2]
          have : (c.2.1 == t) = false := by
            have : c.2.1 = 0 := by simpa using h0
            rw [beq_eq_false_iff_ne]; omega
          rw [this, Bool.or_false])
        simpa [n0] using this
    | false =>
      have n0 : (c.2.1 != 0) = true := by rw [bne, h0]; rfl
      have hj := d206_eq k (ps, (F, (0, ()))) c.2.1 c.1 true hp hF
      simp only at hj
      have key : joinB (ps, (F, (0, ()))) c.2.1 c.1 true = fromB ps bef c := by
        simp only [joinB, fromB, h0, Bool.false_eq_true, if_false]
        cases hwf : wi c.2.1 1 (ps.length : Int) with
        | false => rfl
        | true =>
          have hwf' := hwf
          rw [wi_iff] at hwf'
          rw [hu c.2.1 hwf'.1 hwf'.2]
          cases ho : (port ps c.2.1).2.2.1 with
          | false => simp
          | true => cases ((port ps c.2.1).2.1 == c.1) <;> simp
      rw [key] at hj
      rcases hj with ⟨hj1, hj2⟩ | ⟨hj1, y, hj2⟩
      · have hwf : wi c.2.1 1 (ps.length : Int) = true ∧ (port ps c.2.1).2.2.1 = true := by
          have := hj1
          simp only [fromB, h0, Bool.false_eq_true, if_false, Bool.and_eq_true] at this
          exact ⟨this.1.1, this.1.2.1⟩
        have hwf' := hwf.1
        rw [wi_iff] at hwf'
        have := fin (F.set c.2.1.toNat true) (port ps c.2.1).2.2.2.1 (by rw [List.length_set]; exact hF) hw hj1 (by simp [startSize, h0]) (by
          intro t t1 t2
          by_cases e : c.2.1 = t
          · rw [← e, List.getD_eq_getElem?_getD, List.getElem?_set_self (by omega), if_pos hwf.2]
            simp
          · rw [List.getD_eq_getElem?_getD, List.getElem?_set_ne (by omega), ← List.getD_eq_getElem?_getD, hu t t1 t2]
            have : (c.2.1 == t) = false := by rw [beq_eq_false_iff_ne]; exact e
            rw [this, Bool.or_false])
        simpa [n0, hj2] using this
      · exact .inr ⟨by simp [chanB, hj1], y, by simp [n0, hj2]⟩
end Go.Proofs.YtekgngedamnmaaaGreatDoor.L
