import Derived.Test.YtlagcpfboljhnaaWhM9
namespace Go.Proofs.Ytlagcpfboljhnaa.L
open Go Go.Lift
set_option linter.unusedVariables false
set_option linter.unusedSimpArgs false
/-! ### WheelForgets -/
def isid (id : Int) (f : I2) : Bool := f.2.1 == id
theorem F9_end (x0 : Nat) (m : List I2) (hm : m.length ≤ 65536) (hx : m.length + 1 ≤ x0) (came : Int) (an : Bool) (id n : Int) (k : Nat) (hk : k ≤ m.length) (hf : (m.drop k).filter (nid id) = []) (hn : n = m.length) (hc : came = if an then 1 else 0) :
    d4_K4 x0 ((m, ()), ((k : Int), (an, (came, (n, (id, ())))))) = some ((true, ()), ()) := by
  obtain ⟨j', q1, q2, q3, q4⟩ := F3_run d4_K1 m hm came an id n (m.length - k) k x0 (by omega) (by omega)
  have : j' = m.length := by
    rcases Nat.lt_or_eq_of_le q1 with h | h
    · rw [hf, List.drop_eq_getElem_cons h, List.filter_cons_of_pos (by simp [nid, q3 h])] at q2
      cases q2
    · exact h
  unfold d4_K4
  simp only [shr]
  rw [q4]
  unfold d4_K1
  subst hn; subst hc; subst this
  cases an <;> simp [lt]
theorem F9_run (x0 : Nat) (l m : List I2) (hl : l.length ≤ 65536) (hm : m.length ≤ 65536) (hx : m.length + 1 ≤ x0) (tick : Int) (an : Bool) (id n : Int) (hn : n = m.length) (hone : ∀ x ∈ l, x.2.1 = id → an = true ∧ x.1 = tick) :
    ∀ (c i f k : Nat) (came : Int), i + c = l.length → c + 1 ≤ f → k ≤ m.length → (l.drop i).filter (nid id) = (m.drop k).filter (nid id) → 0 ≤ came → came + ((l.drop i).filter (isid id)).length = (if an then 1 else 0) →
      loopN (d4_L9 x0 (d4_K4 x0)) f ((l, (m, ())), ((i : Int), (came, (tick, (an, ((k : Int), (id, (n, ())))))))) = some ((true, ()), ())
  | 0, i, f + 1, k, came, h, hf, hk, hfl, hc0, hc => by
    rw [List.drop_eq_nil_of_le (by omega)] at hfl hc
    show d4_L9 x0 (d4_K4 x0) (loopN (d4_L9 x0 (d4_K4 x0)) f) _ = _
    generalize loopN (d4_L9 x0 (d4_K4 x0)) f = G
    unfold d4_L9
    have c1 : decide ((i : Int) < (l.length : Int)) = false := decide_eq_false (by omega)
    simp only [lt, c1, Bool.false_eq_true, if_false]
    exact F9_end x0 m hm hx came an id n k hk hfl.symm hn (by simpa using hc)
  | c + 1, i, f + 1, k, came, h, hf, hk, hfl, hc0, hc => by
    have hi : i < l.length := by omega
    have hd := List.drop_eq_getElem_cons hi
    have c1 : decide ((i : Int) < (l.length : Int)) = true := decide_eq_true (by omega)
    have c2 : decide ((0 : Int) ≤ (i : Int)) = true := decide_eq_true (by omega)
    have c3 : decide ((i : Int).toNat < l.length) = true := decide_eq_true (by omega)
    have e2 : l.getD (i : Int).toNat (0, (0, ())) = l[i] := by rw [Int.toNat_natCast]; exact getD_get hi _
    have e4 : IntKind.i64.wrap ((i : Int) + 1) = ((i + 1 : Nat) : Int) := by rw [wrap_in _ (by omega)]; omega
    have hge : (((l.drop i).filter (isid id)).length : Int) ≥ 0 := Int.natCast_nonneg _
    have hce : came ≤ 1 := by split at hc <;> omega
    by_cases e : l[i].2.1 = id
    · obtain ⟨a1, a2⟩ := hone _ (List.getElem_mem hi) e
      rw [hd, List.filter_cons_of_neg (by simp [nid, e])] at hfl
      rw [hd, List.filter_cons_of_pos (by simp [isid, e]), List.length_cons] at hc
      have e5 : IntKind.i64.wrap (came + 1) = came + 1 := wrap_in _ (by omega)
      have IH := F9_run x0 l m hl hm hx tick an id n hn hone c (i + 1) f k (came + 1) (by omega) (by omega) hk hfl (by omega) (by rw [← hc]; omega)
      rw [← IH]
      show d4_L9 x0 (d4_K4 x0) (loopN (d4_L9 x0 (d4_K4 x0)) f) _ = _
      generalize loopN (d4_L9 x0 (d4_K4 x0)) f = G
      unfold d4_L9
      simp only [lt, shr, c1, c2, c3, Bool.and_true, Bool.or_true, if_true, e2, e, beq_self_eq_true, a1, a2, Bool.not_true, Bool.false_eq_true, if_false, bne_self_eq_false, d4_K5, e4, e5]
    · rw [hd, List.filter_cons_of_pos (by simp [nid, e])] at hfl
      rw [hd, List.filter_cons_of_neg (by simp [isid, e])] at hc
      obtain ⟨j', q1, q2, q3, q4⟩ := F8_run (d4_K6 (d4_K5 (loopN (d4_L9 x0 (d4_K4 x0)) f))) l m hm came tick an id n i (m.length - k) k x0 (by omega) (by omega)
      have hj : j' < m.length := by
        rcases Nat.lt_or_eq_of_le q1 with h | h
        · exact h
        · rw [← q2, h, List.drop_length] at hfl; cases hfl
      rw [← q2, List.drop_eq_getElem_cons hj, List.filter_cons_of_pos (by simp [nid, q3 hj])] at hfl
      obtain ⟨f1, f2⟩ := List.cons.inj hfl
      have IH := F9_run x0 l m hl hm hx tick an id n hn hone c (i + 1) f (j' + 1) came (by omega) (by omega) hj f2 hc0 hc
      rw [← IH]
      show d4_L9 x0 (d4_K4 x0) (loopN (d4_L9 x0 (d4_K4 x0)) f) _ = _
      generalize loopN (d4_L9 x0 (d4_K4 x0)) f = G at q4 ⊢
      unfold d4_L9
      have e5 : (l[i].2.1 == id) = false := by simpa using e
      simp only [lt, shr, c1, c2, c3, Bool.and_true, Bool.or_true, if_true, e2, e5, Bool.false_eq_true, if_false]
      rw [q4]
      unfold d4_K6
      have g1 : decide ((j' : Int) ≥ (m.length : Int)) = false := decide_eq_false (by omega)
      have g2 : decide ((0 : Int) ≤ (j' : Int)) = true := decide_eq_true (by omega)
      have g3 : decide ((j' : Int).toNat < m.length) = true := decide_eq_true (by omega)
      have g4 : decide ((j' : Int) < (m.length : Int)) = true := decide_eq_true (by omega)
      have g5 : m.getD (j' : Int).toNat (0, (0, ())) = l[i] := by rw [Int.toNat_natCast, f1]; exact getD_get hj _
      have g6 : IntKind.i64.wrap ((j' : Int) + 1) = ((j' + 1 : Nat) : Int) := by rw [wrap_in _ (by omega)]; omega
      simp only [lt, g1, g2, g3, g4, g5, g6, c1, c2, c3, e2, Bool.and_true, Bool.or_true, if_true, beq_self_eq_true, Bool.not_true, Bool.false_eq_true, if_false, d4_K5, e4]
theorem K10_eq (x0 : Nat) (hx0 : 70000 ≤ x0) (n1 n2 tick : Int) (m1 m2 : MP) (R1 R2 : RG) (h1 : Inv n1 m1 R1) (h2 : Inv n2 m2 R2) (an : Bool) (id : Int)
    (hm : ∀ a b, (a, b) ∈ m1 ↔ ((a, b) ∈ m2 ∧ a ≠ id) ∨ (an = true ∧ a = id ∧ b = tick)) :
    d4_K10 x0 ((some (wh n2 m2 R2), (some (wh n1 m1 R1), ())), (tick, (an, (id, ((m2.length : Int), ()))))) = some ((true, ()), ()) := by
  obtain ⟨m1', R1', l, a1, a2, a3, a4⟩ := d7_eq x0 hx0 n1 top m1 R1 h1 h1.now.2 (Int.le_refl _)
  obtain ⟨m2', R2', m, b1, b2, b3, b4⟩ := d7_eq x0 hx0 n2 top m2 R2 h2 h2.now.2 (Int.le_refl _)
  have t1 : ∀ id t, (id, t) ∈ m1 → t < top := fun id t h => (h1.tk id t h).2
  have t2 : ∀ id t, (id, t) ∈ m2 → t < top := fun id t h => (h2.tk id t h).2
  have hll := a3.le h1.inv.mlen
  have hml := b3.le h2.inv.mlen
  have ho := ones a3 h1.inv.keys t1 id
  have hcount : (l.filter (isid id)).length = if an then 1 else 0 := by
    cases an with
    | true => exact ho.2.1 ⟨tick, (hm _ _).2 (.inr ⟨rfl, rfl, rfl⟩)⟩
    | false =>
      refine ho.2.2 fun t ht => ?_
      rcases (hm _ _).1 ht with h | h
      · exact h.2 rfl
      · cases h.1
  have hrun := F9_run x0 l m hll hml (by omega) tick an id m2.length (by rw [b3.len h2.inv.keys t2]) (fun x hx hid => by
    obtain ⟨t, a, u⟩ := x
    have hid : a = id := hid
    subst hid
    rcases (hm _ _).1 ((a3.all t1 t a).1 hx) with h | h
    · exact absurd rfl h.2
    · exact ⟨h.1, h.2.2⟩) l.length 0 x0 0 0 (by omega) (by omega) (by omega) (by
      rw [List.drop_zero, List.drop_zero]
      refine others a3 b3 t1 t2 fun a b hne => (hm a b).trans ⟨fun h => ?_, fun h => .inl ⟨h, hne⟩⟩
      rcases h with h | h
      · exact h.1
      · exact absurd h.2.1 hne) (Int.le_refl _) (by rw [List.drop_zero, hcount]; split <;> rfl)
  unfold d4_K10
  rw [top_eq] at a1 b1
  simp only [Option.isSome_some, if_true, Option.getD_some, a1, b1, Option.bind_some, shr]
  exact hrun
end Go.Proofs.Ytlagcpfboljhnaa.L
