import Derived.Test.YtekgngedamnmaaaGreatDoorAgX2
namespace Go.Proofs.YtekgngedamnmaaaGreatDoor.L
open Go Go.Lift
set_option linter.unusedVariables false
set_option linter.unusedSimpArgs false
set_option maxRecDepth 100000

/-- Lists with a mark behind each. -/
def mI (P : List WP) (Q : List PQ) (C : List WC) : WI := ((P ++ [mkP], P.length), ((Q ++ [mkQ], Q.length), ((C ++ [mkC], C.length), ())))
theorem gI_eq (x : WI) : gI x = mI ((Vw x.1).map gP) (Vw x.2.1) ((Vw x.2.2.1).map gC) := by
  unfold gI mI
  rw [List.length_map, List.length_map]
structure SameC (c d : WC) : Prop where
  k : d.1 = c.1
  f : d.2.1 = c.2.1
  t : Vw d.2.2.1 = Vw c.2.2.1
  z : d.2.2.2 = c.2.2.2
theorem get_app {α : Type} (l : List α) (m : α) {i : Nat} (h : i < l.length) (d : α) : (l ++ [m]).getD i d = l[i] := by
  rw [getD_mem (by simp; omega)]
  exact List.getElem_append_left h
theorem dlt2 {α : Type} (l : List α) (m : α) {i : Nat} (h : i < l.length) : decide ((i : Int) < (((l ++ [m]).length : Nat) : Int)) = true := decide_eq_true (by simp; omega)

theorem d21_l5 (X : (((WI × (WI × Unit)) × (Bool × (Int × Unit))) → (Option ((Bool × Unit) × Unit)))) (c : WC) (y x : WI) (j : Int) (t : List Int) (ht : Vw c.2.2.1 = t) (hb : t.length < 4611686018427387904) : ∀ (m i k : Nat), i + m = t.length → m < k →
    loopN (d21_L5 X) k ((c, (y, (x, ()))), ((i : Int), ((t ++ [-77], t.length + 1), (true, (j, ()))))) = X ((y, (x, ())), (true, (j, ()))) := by
  intro m
  induction m with
  | zero =>
    intro i k hi hk
    obtain ⟨k, rfl⟩ : ∃ k', k = k' + 1 := ⟨k - 1, by omega⟩
    simp only [loopN, d21_L5, lt, ht, dnlt (show t.length ≤ i by omega), Bool.false_eq_true, if_false]
  | succ m ih =>
    intro i k hi hk
    obtain ⟨k, rfl⟩ : ∃ k', k = k' + 1 := ⟨k - 1, by omega⟩
    have h1 : i < t.length := by omega
    have hih := ih (i + 1) k (by omega) (by omega)
    simp only [loopN, d21_L5, lt, shr, ht, take_mark1, dlt h1, dge0, Bool.and_self, if_true, Int.toNat_natCast, getD_mem h1, get_app t (-77) h1, dlt2 t (-77) h1, beq_self_eq_true, Bool.or_true, d21_K4, wr1 (show i < 4611686018427387904 by omega)]
    exact hih
theorem d21_l6 (k0 : Nat) (P : List WP) (Q : List PQ) (C : List WC) (x : WI) (hC : C.length = (Vw x.2.2.1).length) (hs : ∀ (i : Nat) (h : i < (Vw x.2.2.1).length), ∃ c, C[i]? = some (gC c) ∧ SameC c (Vw x.2.2.1)[i])
    (hr : ∀ c, c ∈ Vw x.2.2.1 → Rm (Vw c.2.2.1).length 8 ∧ (Vw c.2.2.1).length < k0) (hb : (Vw x.2.2.1).length < 4611686018427387904) : ∀ (m i k : Nat), i + m = (Vw x.2.2.1).length → m < k →
    loopN (d21_L6 k0 d21_K1) k ((mI P Q C, (x, ())), ((i : Int), (true, ()))) = some ((true, ()), ()) := by
  intro m
  induction m with
  | zero =>
    intro i k hi hk
    obtain ⟨k, rfl⟩ : ∃ k', k = k' + 1 := ⟨k - 1, by omega⟩
    simp only [loopN, d21_L6, lt, dnlt (show (Vw x.2.2.1).length ≤ i by omega), Bool.false_eq_true, if_false, d21_K1]
  | succ m ih =>
    intro i k hi hk
    obtain ⟨k, rfl⟩ : ∃ k', k = k' + 1 := ⟨k - 1, by omega⟩
    have h1 : i < (Vw x.2.2.1).length := by omega
    have hih := ih (i + 1) k (by omega) (by omega)
    obtain ⟨c, hc, hsc⟩ := hs i h1
    have hrc := hr _ (List.getElem_mem h1)
    have hC1 : i < C.length := by omega
    have hCi : C[i] = gC c := by
      have := List.getElem?_eq_getElem hC1
      rw [hc] at this
      exact (Option.some.inj this).symm
    generalize hd : (Vw x.2.2.1)[i] = d at hsc hrc
    have w1 : (mI P Q C).2.2.1.2 = C.length := rfl
    have w2 : (mI P Q C).2.2.1.1 = C ++ [mkC] := rfl
    have g1 : (gC c).2.2.1.1 = Vw c.2.2.1 ++ [-77] := rfl
    have g2 : (gC c).1 = c.1 := rfl
    have g3 : (gC c).2.1 = c.2.1 := rfl
    have g4 : (gC c).2.2.2 = c.2.2.2 := rfl
    have ln : (Vw d.2.2.1).length = (Vw c.2.2.1).length := by rw [hsc.t]
    rw [ln] at hrc
    have l5 := d21_l5 (d21_K3 (d21_K2 (loopN (d21_L6 k0 d21_K1) k))) d (mI P Q C) x (i : Int) (Vw c.2.2.1) hsc.t hrc.1.lt (Vw c.2.2.1).length 0 k0 (by omega) hrc.2
    simp only [loopN, d21_L6, lt, shr, w1, w2, dlt h1, dlt hC1, dge0, Bool.and_self, if_true, Int.toNat_natCast, getD_mem h1, hd, take_mark, getD_mem hC1, hCi, g1, g2, g3, g4, hsc.k, hsc.f, hsc.t, hsc.z, wr1 hrc.1.lt, dle1, take_mark1, dlt1, get_mark, beq_self_eq_true, Bool.or_true]
    refine l5.trans ?_
    simp only [d21_K3, d21_K2, wr1 (show i < 4611686018427387904 by omega)]
    exact hih
theorem d21_l9 (X : (((WI × (WI × Unit)) × (Bool × Unit)) → (Option ((Bool × Unit) × Unit)))) (P : List WP) (Q : List PQ) (C : List WC) (x : WI) (hQ : Q = Vw x.2.1) (hb : (Vw x.2.1).length < 4611686018427387904) : ∀ (m i k : Nat), i + m = (Vw x.2.1).length → m < k →
    loopN (d21_L9 X) k ((x, (mI P Q C, ())), ((i : Int), (true, ()))) = X ((mI P Q C, (x, ())), (true, ())) := by
  have w1 : (mI P Q C).2.1.2 = Q.length := rfl
  have w2 : (mI P Q C).2.1.1 = Q ++ [mkQ] := rfl
  intro m
  induction m with
  | zero =>
    intro i k hi hk
    obtain ⟨k, rfl⟩ : ∃ k', k = k' + 1 := ⟨k - 1, by omega⟩
    simp only [loopN, d21_L9, lt, dnlt (show (Vw x.2.1).length ≤ i by omega), Bool.false_eq_true, if_false]
  | succ m ih =>
    intro i k hi hk
    obtain ⟨k, rfl⟩ : ∃ k', k = k' + 1 := ⟨k - 1, by omega⟩
    have h1 : i < (Vw x.2.1).length := by omega
    have hih := ih (i + 1) k (by omega) (by omega)
    have h2 : i < Q.length := by rw [hQ]; exact h1
    have hq : Q[i] = (Vw x.2.1)[i] := by simp only [hQ]
    simp only [loopN, d21_L9, lt, shr, w1, w2, take_mark, dlt h1, dlt h2, dge0, Bool.and_self, if_true, Int.toNat_natCast, getD_mem h1, getD_mem h2, hq, beq_self_eq_true, Bool.or_true, d21_K8, wr1 (show i < 4611686018427387904 by omega)]
    exact hih
theorem d21_l12 (k0 : Nat) (X : (((WI × (WI × Unit)) × (Bool × Unit)) → (Option ((Bool × Unit) × Unit)))) (P : List WP) (Q : List PQ) (C : List WC) (x : WI) (hP : P.length = (Vw x.1).length) (hs : ∀ (i : Nat) (h : i < (Vw x.1).length) (h' : i < P.length), d61 k0 (P[i], ((Vw x.1)[i], ())) = some ((true, ()), ())) (hb : (Vw x.1).length < 4611686018427387904) : ∀ (m i k : Nat), i + m = (Vw x.1).length → m < k →
    loopN (d21_L12 k0 X) k ((x, (mI P Q C, ())), ((i : Int), (true, ()))) = X ((x, (mI P Q C, ())), (true, ())) := by
  have w1 : (mI P Q C).1.2 = P.length := rfl
  have w2 : (mI P Q C).1.1 = P ++ [mkP] := rfl
  intro m
  induction m with
  | zero =>
    intro i k hi hk
    obtain ⟨k, rfl⟩ : ∃ k', k = k' + 1 := ⟨k - 1, by omega⟩
    simp only [loopN, d21_L12, lt, dnlt (show (Vw x.1).length ≤ i by omega), Bool.false_eq_true, if_false]
  | succ m ih =>
    intro i k hi hk
    obtain ⟨k, rfl⟩ : ∃ k', k = k' + 1 := ⟨k - 1, by omega⟩
    have h1 : i < (Vw x.1).length := by omega
    have hih := ih (i + 1) k (by omega) (by omega)
    have h2 : i < P.length := by omega
    simp only [loopN, d21_L12, lt, shr, w1, w2, take_mark, dlt h1, dlt h2, dge0, Bool.and_self, if_true, Int.toNat_natCast, getD_mem h1, getD_mem h2, hs i h1 h2, Option.bind_some, beq_self_eq_true, Bool.or_true, d21_K11, wr1 (show i < 4611686018427387904 by omega)]
    exact hih
theorem d21_eq (k : Nat) (P : List WP) (Q : List PQ) (C : List WC) (x : WI) (hx : RmI x) (hP : P.length = (Vw x.1).length) (hs : ∀ (i : Nat) (h : i < (Vw x.1).length) (h' : i < P.length), d61 k (P[i], ((Vw x.1)[i], ())) = some ((true, ()), ()))
    (hQ : Q = Vw x.2.1) (hC : C.length = (Vw x.2.2.1).length) (hsc : ∀ (i : Nat) (h : i < (Vw x.2.2.1).length), ∃ c, C[i]? = some (gC c) ∧ SameC c (Vw x.2.2.1)[i])
    (k1 : (Vw x.1).length < k) (k2 : (Vw x.2.1).length < k) (k3 : (Vw x.2.2.1).length < k) (kc : ∀ c, c ∈ Vw x.2.2.1 → (Vw c.2.2.1).length < k) : d21 k (mI P Q C, (x, ())) = some ((true, ()), ()) := by
  have w1 : (mI P Q C).1.1 = P ++ [mkP] := rfl
  have w2 : (mI P Q C).2.1.1 = Q ++ [mkQ] := rfl
  have w3 : (mI P Q C).2.2.1.1 = C ++ [mkC] := rfl
  have hQl : (Vw x.2.1).length = Q.length := by rw [hQ]
  have l1 := d21_l12 k (d21_K10 k) P Q C x hP hs hx.p.lt (Vw x.1).length 0 k (by omega) k1
  have l2 := d21_l9 (d21_K7 k) P Q C x hQ hx.q.lt (Vw x.2.1).length 0 k (by omega) k2
  have l3 := d21_l6 k P Q C x hC hsc (fun c hc => ⟨hx.cs c hc, kc c hc⟩) hx.c.lt (Vw x.2.2.1).length 0 k (by omega) k3
  have p1 := hx.p.lt
  have p2 := hx.q.lt
  have p3 := hx.c.lt
  rw [← hP] at p1
  rw [hQl] at p2
  rw [← hC] at p3
  have key : loopN (d21_L12 k (d21_K10 k)) k ((x, (mI P Q C, ())), (((0 : Nat) : Int), (true, ()))) = some ((true, ()), ()) := by
    refine l1.trans ?_
    simp only [d21_K10, shr]
    refine l2.trans ?_
    simp only [d21_K7, shr]
    exact l3
  simp only [d21, lt, shr, w1, w2, w3, ← hP, ← hC, hQl, wr1 p1, wr1 p2, wr1 p3, dge0, Int.toNat_natCast, dle1, take_mark1, dlt1, get_mark, beq_self_eq_true, Bool.and_self, Bool.or_true, if_true]
  exact key

/-! ### the image changed where it lies -/
def fQ (q : PQ) : PQ := (q.1, (q.2.1, (q.2.2.1, (q.2.2.2.1, (IntKind.wrap .i64 (IntKind.wrap .i64 (Int.tdiv q.2.2.2.2.1 2) + 1), q.2.2.2.2.2)))))
def fC (c : WC) : WC := (c.1, (c.2.1, (c.2.2.1, (c.2.2.2.1, (IntKind.wrap .i64 (c.2.2.2.2.1 + 1), c.2.2.2.2.2)))))
theorem set_step {α : Type} (f : α → α) (l : List α) (m : α) {i : Nat} (h : i < l.length) : List.set (((l.take i).map f ++ l.drop i) ++ [m]) i (f l[i]) = ((l.take (i + 1)).map f ++ l.drop (i + 1)) ++ [m] := by
  have hl : ((l.take i).map f).length = i := by rw [List.length_map, List.length_take]; omega
  rw [List.append_assoc, List.set_append_right _ _ (by rw [hl]; exact Nat.le_refl _), hl, Nat.sub_self, List.drop_eq_getElem_cons h, List.cons_append, List.set_cons_zero, List.take_succ_eq_append_getElem h, List.map_append]
  simp
theorem get_step {α : Type} (f : α → α) (l : List α) (m : α) {i : Nat} (h : i < l.length) (d : α) : (((l.take i).map f ++ l.drop i) ++ [m]).getD i d = l[i] := by
  have hl : ((l.take i).map f).length = i := by rw [List.length_map, List.length_take]; omega
  rw [List.getD_eq_getElem?_getD, List.append_assoc, List.getElem?_append_right (by rw [hl]; exact Nat.le_refl _), hl, Nat.sub_self, List.drop_eq_getElem_cons h]
  rfl
theorem len_step {α : Type} (f : α → α) (l : List α) (m : α) (i : Nat) : (((l.take i).map f ++ l.drop i) ++ [m]).length = l.length + 1 := by
  simp only [List.length_append, List.length_map, List.length_take, List.length_drop, List.length_cons, List.length_nil]
  omega
theorem d5_qloop (X : (((WI × Unit) × I2) → (Option ((Bool × Unit) × Unit)))) (P : List WP × Nat) (Q : List PQ) (C : List WC × Nat) (a b : Int) (hb : Q.length < 4611686018427387904) : ∀ (m i k : Nat), i + m = Q.length → m < k →
    loopN (d5_L6 X) k (((P, ((((Q.take i).map fQ ++ Q.drop i) ++ [mkQ], Q.length), (C, ()))), ()), ((i : Int), (a, (b, ())))) = X (((P, ((Q.map fQ ++ [mkQ], Q.length), (C, ()))), ()), (a, (b, ()))) := by
  intro m
  induction m with
  | zero =>
    intro i k hi hk
    obtain ⟨k, rfl⟩ : ∃ k', k = k' + 1 := ⟨k - 1, by omega⟩
    rw [List.take_of_length_le (by omega), List.drop_eq_nil_of_le (by omega), List.append_nil]
    simp only [loopN, d5_L6, lt, dnlt (show Q.length ≤ i by omega), Bool.false_eq_true, if_false]
  | succ m ih =>
    intro i k hi hk
    obtain ⟨k, rfl⟩ : ∃ k', k = k' + 1 := ⟨k - 1, by omega⟩
    have h1 : i < Q.length := by omega
    have hih := ih (i + 1) k (by omega) (by omega)
    have hd1 : decide (i < Q.length) = true := decide_eq_true h1
    have hd2 : decide (i < (((Q.take i).map fQ ++ Q.drop i) ++ [mkQ]).length) = true := decide_eq_true (by rw [len_step]; omega)
    have ef : ((Q[i].1, (Q[i].2.1, (Q[i].2.2.1, (Q[i].2.2.2.1, (IntKind.wrap .i64 (IntKind.wrap .i64 (Int.tdiv Q[i].2.2.2.2.1 2) + 1), Q[i].2.2.2.2.2))))) : PQ) = fQ Q[i] := rfl
    have two : (!(2 : Int) == 0) = true := rfl
    simp only [loopN, d5_L6, lt, shr, dlt h1, dge0, Bool.and_self, if_true, Int.toNat_natCast, hd1, hd2, get_step fQ Q mkQ h1, two, ef, set_step fQ Q mkQ h1, d5_K5, wr1 (show i < 4611686018427387904 by omega)]
    exact hih
theorem d5_cloop (X : (((WI × Unit) × I2) → (Option ((Bool × Unit) × Unit)))) (P : List WP × Nat) (Q : List PQ × Nat) (C : List WC) (a b : Int) (hb : C.length < 4611686018427387904) : ∀ (m i k : Nat), i + m = C.length → m < k →
    loopN (d5_L3 X) k (((P, (Q, ((((C.take i).map fC ++ C.drop i) ++ [mkC], C.length), ()))), ()), ((i : Int), (a, (b, ())))) = X (((P, (Q, ((C.map fC ++ [mkC], C.length), ()))), ()), (a, (b, ()))) := by
  intro m
  induction m with
  | zero =>
    intro i k hi hk
    obtain ⟨k, rfl⟩ : ∃ k', k = k' + 1 := ⟨k - 1, by omega⟩
    rw [List.take_of_length_le (by omega), List.drop_eq_nil_of_le (by omega), List.append_nil]
    simp only [loopN, d5_L3, lt, dnlt (show C.length ≤ i by omega), Bool.false_eq_true, if_false]
  | succ m ih =>
    intro i k hi hk
    obtain ⟨k, rfl⟩ : ∃ k', k = k' + 1 := ⟨k - 1, by omega⟩
    have h1 : i < C.length := by omega
    have hih := ih (i + 1) k (by omega) (by omega)
    have hd1 : decide (i < C.length) = true := decide_eq_true h1
    have hd2 : decide (i < (((C.take i).map fC ++ C.drop i) ++ [mkC]).length) = true := decide_eq_true (by rw [len_step]; omega)
    have ef : ((C[i].1, (C[i].2.1, (C[i].2.2.1, (C[i].2.2.2.1, (IntKind.wrap .i64 (C[i].2.2.2.2.1 + 1), C[i].2.2.2.2.2))))) : WC) = fC C[i] := rfl
    simp only [loopN, d5_L3, lt, shr, dlt h1, dge0, Bool.and_self, if_true, Int.toNat_natCast, hd1, hd2, get_step fC C mkC h1, ef, set_step fC C mkC h1, d5_K2, wr1 (show i < 4611686018427387904 by omega)]
    exact hih
end Go.Proofs.YtekgngedamnmaaaGreatDoor.L
