import Derived.Test.YticemfakkgebhaaGreatDoorSt9
namespace Go.Proofs.YticemfakkgebhaaGreatDoor.L
open Go Go.Lift
set_option linter.unusedVariables false
set_option linter.unusedSimpArgs false
set_option maxRecDepth 100000

/-! ### Decode of what was told -/
def wdI (x : IN) : Prop := inW x.1 ∧ inW x.2.1 ∧ inW x.2.2.1 ∧ (∀ y ∈ x.2.2.2.1, inW y) ∧ x.2.2.2.1.length * 8 ≤ 140737488351232
theorem dec_told (k : Nat) (hk : 4200000 < k) (l : List IN) (hw : ∀ x ∈ l, wdI x) (h1 : l.length ≤ 65536) (h2 : (encIs l).length ≤ 4194304) {s A c4 : List Int} (hs : s = A ++ encIs l ++ c4) (hA : A.length = 8) (hc : c4.length = 4) (hB : ∀ y ∈ s, isB y) (h50 : d13 k (3, (encIs l, ())) = some ((s, (0, ())), ())) :
    d7 k (s, ()) = some ((l, (0, ())), ()) := by
  have h40 := unseal_sealed k hk (encIs l) s A c4 hs hA hc hB h2 h50
  have e0 : ((0 : Int) != 0) = false := rfl
  have hcl : (encIs l).length ≤ 140737488355328 := by omega
  have h41 : d18 k (encIs l, ()) = some (((encIs l, (0, ())), ()), ()) := by
    simp only [d18, d29, if_pos hcl, Option.bind_some]
  have h42 : d19 k ((encIs l, (0, ())), ()) = some (((l.length : Int), ()), ((l.flatMap encI, (0, ())), ())) := u32_back k (by omega) l.length (by omega) (l.flatMap encI) (flat_isB _ encI_isB _)
  have hok : ∀ x ∈ l, okI x := fun x hx => by
    obtain ⟨a, b, c, d, e⟩ := hw x hx
    have hge := flatI_ge hx
    rw [encI_len] at hge
    rw [encIs_len] at h2
    exact ⟨a, b, c, by omega, d⟩
  have h43 := gi_back k hk l h1 hok [] (fun y hy => by cases hy) (by
    have := flat_ge encI (fun x => by rw [encI_len]; omega) l
    rw [List.append_nil]; exact this)
  rw [List.append_nil] at h43
  have d1 : decide ((l.length : Int) > 65536) = false := decide_eq_false (by omega)
  have h45 : d22 k (([], (0, ())), ()) = some ((0, ()), ()) := rfl
  simp only [d7, lt, h40, h41, h42, h43, h45, Option.bind_some, e0, d1, Bool.false_eq_true, if_false]

/-! ### the count -/
def wdL (l : List IN) : Prop := ∀ x ∈ l, wdI x
theorem cnt_any (K : Unit × (List IN) × (Int × Unit) → Option ((Bool × Unit) × Unit)) (l : List IN) (hl : l.length < 4611686018427387904) : ∀ m i k (v : Int), i + m = l.length → m < k →
    ∃ v', loopN (d3_L3 K) k ((), ((i : Int), (l, (v, ())))) = K ((), (l, (v', ()))) := by
  intro m
  induction m with
  | zero =>
    intro i k v hi hk
    obtain ⟨k, rfl⟩ : ∃ k', k = k' + 1 := ⟨k - 1, by omega⟩
    exact ⟨v, by simp only [loopN, d3_L3, lt, dnlt (show l.length ≤ i by omega), Bool.false_eq_true, if_false]⟩
  | succ m ih =>
    intro i k v hi hk
    obtain ⟨k, rfl⟩ : ∃ k', k = k' + 1 := ⟨k - 1, by omega⟩
    have h1 : i < l.length := by omega
    obtain ⟨v', h⟩ := ih (i + 1) k _ (by omega) (by omega)
    refine ⟨v', Eq.trans ?_ h⟩
    simp only [loopN, d3_L3, lt, shr, dlt h1, dge0, Bool.and_self, if_true, d3_K2, wr1 (show i < 4611686018427387904 by omega)]
    rfl
theorem cnt_eq (K : Unit × (List IN) × (Int × Unit) → Option ((Bool × Unit) × Unit)) (l : List IN) (hw : wdL l) (hl : l.length ≤ 65536) : ∀ m i k (v : Nat), i + m = l.length → m < k → v ≤ 4 + 140737488351260 * i →
    loopN (d3_L3 K) k ((), ((i : Int), (l, ((v : Int), ())))) = K ((), (l, (((v + ((l.drop i).flatMap encI).length : Nat) : Int), ()))) := by
  intro m
  induction m with
  | zero =>
    intro i k v hi hk hv
    obtain ⟨k, rfl⟩ : ∃ k', k = k' + 1 := ⟨k - 1, by omega⟩
    have : l.drop i = [] := List.drop_eq_nil_of_le (by omega)
    simp only [loopN, d3_L3, lt, dnlt (show l.length ≤ i by omega), Bool.false_eq_true, if_false, this, List.flatMap_nil, List.length_nil, Nat.add_zero]
  | succ m ih =>
    intro i k v hi hk hv
    obtain ⟨k, rfl⟩ : ∃ k', k = k' + 1 := ⟨k - 1, by omega⟩
    have h1 : i < l.length := by omega
    have hg : l.getD i ((0 : Int), ((0 : Int), ((0 : Int), (([] : List Int), ())))) = l[i] := by
      rw [List.getD_eq_getElem?_getD, List.getElem?_eq_getElem h1]; rfl
    have hb := (hw l[i] (List.getElem_mem h1)).2.2.2.2
    have := ih (i + 1) k (v + (28 + 8 * l[i].2.2.2.1.length)) (by omega) (by omega) (by omega)
    have a1 : IntKind.wrap .i64 ((v : Int) + 28) = ((v + 28 : Nat) : Int) := by
      simp [IntKind.wrap, IntKind.signed, IntKind.bits]; omega
    have a2 : IntKind.wrap .i64 ((8 : Int) * ((l[i].2.2.2.1.length : Nat) : Int)) = ((8 * l[i].2.2.2.1.length : Nat) : Int) := by
      simp [IntKind.wrap, IntKind.signed, IntKind.bits]; omega
    have a3 : IntKind.wrap .i64 (((v + 28 : Nat) : Int) + ((8 * l[i].2.2.2.1.length : Nat) : Int)) = ((v + (28 + 8 * l[i].2.2.2.1.length) : Nat) : Int) := by
      simp [IntKind.wrap, IntKind.signed, IntKind.bits]; omega
    refine Eq.trans ?_ (this.trans ?_)
    · simp only [loopN, d3_L3, lt, shr, dlt h1, dge0, Bool.and_self, if_true, Int.toNat_natCast, hg, a1, a2, a3, d3_K2, wr1 (show i < 4611686018427387904 by omega)]
    · rw [List.drop_eq_getElem_cons h1, List.flatMap_cons, List.length_append, encI_len]
      have : v + (28 + 8 * l[i].2.2.2.1.length) + (List.flatMap encI (List.drop (i + 1) l)).length = v + (28 + 8 * l[i].2.2.2.1.length + (List.flatMap encI (List.drop (i + 1) l)).length) := by omega
      rw [this]

theorem there_k (l : List IN) (hw : wdL l) (hl : l.length * 48 ≤ 140737488355328) (k : Nat) (hk : l.length + dMax l + 4300000 ≤ k) : d3 k (l, ()) = some ((true, ()), ()) := by
  have hd : dOk l := fun x hx => by have := (hw x hx).2.2.2.2; omega
  have s6 : d6 k () = some ((true, ()), ()) := by
    rw [show k = (k - 60) + 60 by omega]; exact known_true _
  have hc := copy_eq k l hd hl (by omega)
  have t11 : ((1 : Int) == 1) = true := rfl
  have t00 : ((0 : Int) == 0) = true := rfl
  have tl : ((([] : List Int).length : Int) == 0) = true := rfl
  by_cases hbig : 65536 < l.length
  · obtain ⟨v, h⟩ := cnt_any (d3_K1 k) l (by omega) l.length 0 k 4 (by omega) (by omega)
    have d1 : decide ((l.length : Int) > 65536) = true := decide_eq_true (by omega)
    rcases enc_any k (by omega) l with ⟨h1, _⟩ | ⟨_, h4⟩
    · omega
    · simp only [d3, shr]
      refine Eq.trans h ?_
      simp only [d3_K1, hc, h4, lt, Option.bind_some, d1, if_true, s6, t11, tl]
  · have h := cnt_eq (d3_K1 k) l hw (by omega) l.length 0 k 4 (by omega) (by omega) (by omega)
    rw [List.drop_zero, ← encIs_len] at h
    have d1 : decide ((l.length : Int) > 65536) = false := decide_eq_false (by omega)
    simp only [d3, shr]
    refine Eq.trans h ?_
    rcases enc_any k (by omega) l with ⟨h1, h2, s, A, c4, hs, hA, h4, hB, h50, he⟩ | ⟨hor, he⟩
    · have d2 : decide ((((encIs l).length : Nat) : Int) > 4194304) = false := decide_eq_false (by omega)
      have hdec := dec_told k (by omega) l hw h1 h2 hs hA h4 hB h50
      have hlen : s.length = (encIs l).length + 12 := by rw [hs]; simp [hA, h4]; omega
      have f1 : appFits ([] : List Int).length s.length 1 = true := fits1 (by simp; omega)
      have a1 : IntKind.wrap .i64 ((((encIs l).length : Nat) : Int) + 12) = ((s.length : Nat) : Int) := by
        simp [IntKind.wrap, IntKind.signed, IntKind.bits]; omega
      have hsame := same_eq k l (by omega) hd (by omega) (by omega)
      simp only [d3_K1, hc, he, lt, Option.bind_some, d1, d2, Bool.false_eq_true, if_false, f1, if_true, List.nil_append, hdec, s6, t00, a1, beq_self_eq_true, Bool.and_self, hsame]
    · have d2 : decide ((((encIs l).length : Nat) : Int) > 4194304) = true := decide_eq_true (by omega)
      simp only [d3_K1, hc, he, lt, Option.bind_some, d1, d2, Bool.false_eq_true, if_false, if_true, s6, t11, tl]
theorem there_true (l : List IN) (hw : wdL l) (hl : l.length * 48 ≤ 140737488355328) : ∃ k, d3 k (l, ()) = some ((true, ()), ()) := ⟨_, there_k l hw hl _ (Nat.le_refl _)⟩
end Go.Proofs.YticemfakkgebhaaGreatDoor.L
