import Derived.Test.YtlagcpfboljhnaaWhM8
namespace Go.Proofs.Ytlagcpfboljhnaa.L
open Go Go.Lift
set_option linter.unusedVariables false
set_option linter.unusedSimpArgs false
/-! ### Lists in order -/
theorem len_subG {α : Type} [BEq α] [LawfulBEq α] : ∀ (l1 l2 : List α), l1.Nodup → (∀ x ∈ l1, x ∈ l2) → l1.length ≤ l2.length
  | [], _, _, _ => Nat.zero_le _
  | a :: l, l2, h, hs => by
    obtain ⟨h1, h2⟩ := List.nodup_cons.1 h
    have ha := hs a (List.mem_cons_self ..)
    have := len_subG l (l2.erase a) h2 fun x hx => (List.mem_erase_of_ne (by rintro rfl; exact h1 hx)).2 (hs x (List.mem_cons_of_mem _ hx))
    rw [List.length_erase_of_mem ha] at this
    have hp := List.length_pos_of_mem ha
    simp only [List.length_cons]
    omega
theorem Fb.ne {a : I2} (h : Fb a a) : False := by unfold Fb at h; omega
theorem Fb.asymm {a b : I2} (h : Fb a b) (h' : Fb b a) : False := by unfold Fb at h h'; omega
theorem sorted_ext : ∀ {l1 l2 : List I2}, l1.Pairwise Fb → l2.Pairwise Fb → (∀ x, x ∈ l1 ↔ x ∈ l2) → l1 = l2
  | [], [], _, _, _ => rfl
  | [], b :: _, _, _, h => absurd ((h b).2 (List.mem_cons_self ..)) (by simp)
  | a :: _, [], _, _, h => absurd ((h a).1 (List.mem_cons_self ..)) (by simp)
  | a :: l1, b :: l2, h1, h2, h => by
    obtain ⟨p1, p2⟩ := List.pairwise_cons.1 h1
    obtain ⟨q1, q2⟩ := List.pairwise_cons.1 h2
    have hab : a = b := by
      rcases List.mem_cons.1 ((h a).1 (List.mem_cons_self ..)) with e | e
      · exact e
      · rcases List.mem_cons.1 ((h b).2 (List.mem_cons_self ..)) with e' | e'
        · exact e'.symm
        · exact absurd (p1 _ e') fun hf => (q1 _ e).asymm hf
    subst hab
    congr 1
    refine sorted_ext p2 q2 fun x => ?_
    constructor
    · intro hx
      rcases List.mem_cons.1 ((h x).1 (List.mem_cons_of_mem _ hx)) with e | e
      · subst e; exact (Fb.ne (p1 _ hx)).elim
      · exact e
    · intro hx
      rcases List.mem_cons.1 ((h x).2 (List.mem_cons_of_mem _ hx)) with e | e
      · subst e; exact (Fb.ne (q1 _ hx)).elim
      · exact e
theorem Fired.nodup {m : MP} {to : Int} {l : List I2} (h : Fired m to l) : l.Nodup := h.sorted.imp fun {a b} hf e => by subst e; exact hf.ne
theorem Fired.all {m : MP} {l : List I2} (h : Fired m top l) (ht : ∀ id t, (id, t) ∈ m → t < top) (t id : Int) : ((t, (id, ())) : I2) ∈ l ↔ (id, t) ∈ m :=
  (h.mem t id).trans ⟨fun h => h.1, fun h => ⟨h, Int.le_of_lt (ht _ _ h)⟩⟩
theorem Fired.len {m : MP} {l : List I2} (h : Fired m top l) (hk : Keys m) (ht : ∀ id t, (id, t) ∈ m → t < top) : l.length = m.length := by
  have hn : m.Nodup := List.Pairwise.of_map _ (fun a b h e => h (by rw [e])) hk
  apply Nat.le_antisymm
  · have : (l.map fun f => (f.2.1, f.1)).length ≤ m.length := by
      refine len_subG _ _ ?_ fun x hx => ?_
      · refine List.pairwise_map.2 (h.nodup.imp fun {a b} hne e => hne ?_)
        obtain ⟨e1, e2⟩ := Prod.mk.inj e
        obtain ⟨a1, a2, a3⟩ := a; obtain ⟨b1, b2, b3⟩ := b
        simp_all
      · obtain ⟨f, hf, rfl⟩ := List.mem_map.1 hx
        obtain ⟨t, id, u⟩ := f
        exact (h.all ht t id).1 hf
    simpa using this
  · have : (m.map fun f => ((f.2, (f.1, ())) : I2)).length ≤ l.length := by
      refine len_subG _ _ ?_ fun x hx => ?_
      · refine List.pairwise_map.2 (hn.imp fun {a b} hne e => hne ?_)
        obtain ⟨e1, e2⟩ := Prod.mk.inj e
        obtain ⟨e2, _⟩ := Prod.mk.inj e2
        exact Prod.ext e2 e1
      · obtain ⟨f, hf, rfl⟩ := List.mem_map.1 hx
        exact (h.all ht _ _).2 hf
    simpa using this
theorem Fired.le {m : MP} {l : List I2} {to : Int} (h : Fired m to l) (hm : m.length ≤ 65536) : l.length ≤ 65536 := by
  have : (l.map fun f => (f.2.1, f.1)).length ≤ m.length := by
    refine len_subG _ _ ?_ fun x hx => ?_
    · refine List.pairwise_map.2 (h.nodup.imp fun {a b} hne e => hne ?_)
      obtain ⟨e1, e2⟩ := Prod.mk.inj e
      obtain ⟨a1, a2, a3⟩ := a; obtain ⟨b1, b2, b3⟩ := b
      simp_all
    · obtain ⟨f, hf, rfl⟩ := List.mem_map.1 hx
      obtain ⟨t, id, u⟩ := f
      exact ((h.mem t id).1 hf).1
  have e : (l.map fun f => (f.2.1, f.1)).length = l.length := List.length_map ..
  omega
/-! ### The others, without this number -/
def nid (id : Int) (f : I2) : Bool := !(f.2.1 == id)
theorem others {m m' : MP} {l l' : List I2} (h : Fired m top l) (h' : Fired m' top l') (ht : ∀ id t, (id, t) ∈ m → t < top) (ht' : ∀ id t, (id, t) ∈ m' → t < top) {id : Int}
    (hm : ∀ a b, a ≠ id → ((a, b) ∈ m ↔ (a, b) ∈ m')) : l.filter (nid id) = l'.filter (nid id) := by
  refine sorted_ext (h.sorted.filter _) (h'.sorted.filter _) fun x => ?_
  obtain ⟨t, a, u⟩ := x
  rw [List.mem_filter, List.mem_filter]
  by_cases e : a = id
  · subst e; simp [nid]
  · have e1 := (h.all ht t a).trans ((hm a t e).trans (h'.all ht' t a).symm)
    exact ⟨fun ⟨p, q⟩ => ⟨e1.1 p, q⟩, fun ⟨p, q⟩ => ⟨e1.2 p, q⟩⟩
theorem ones {m : MP} {l : List I2} (h : Fired m top l) (hk : Keys m) (ht : ∀ id t, (id, t) ∈ m → t < top) (id : Int) : (l.filter fun f => f.2.1 == id).length ≤ 1 ∧ ((∃ t, (id, t) ∈ m) → (l.filter fun f => f.2.1 == id).length = 1) ∧ ((∀ t, (id, t) ∉ m) → (l.filter fun f => f.2.1 == id).length = 0) := by
  have h1 : (l.filter fun f => f.2.1 == id).length ≤ 1 := by
    cases e : l.filter fun f => f.2.1 == id with
    | nil => simp
    | cons a r =>
      cases r with
      | nil => simp
      | cons b r =>
        exfalso
        have hs := h.nodup.filter (fun f => f.2.1 == id)
        have ha : a ∈ l.filter fun f => f.2.1 == id := by rw [e]; simp
        have hb : b ∈ l.filter fun f => f.2.1 == id := by rw [e]; simp
        rw [e] at hs
        obtain ⟨a1, a2, a3⟩ := a; obtain ⟨b1, b2, b3⟩ := b
        obtain ⟨p1, p2⟩ := List.mem_filter.1 ha
        obtain ⟨q1, q2⟩ := List.mem_filter.1 hb
        have p2 : a2 = id := by simpa using p2
        have q2 : b2 = id := by simpa using q2
        subst p2; subst q2
        have := hk.uniq ((h.all ht _ _).1 p1) ((h.all ht _ _).1 q1)
        subst this
        simp at hs
  refine ⟨h1, fun ⟨t, hm⟩ => ?_, fun hn => ?_⟩
  · have : ((t, (id, ())) : I2) ∈ l.filter fun f => f.2.1 == id := List.mem_filter.2 ⟨(h.all ht _ _).2 hm, by simp⟩
    have := List.length_pos_of_mem this
    omega
  · rw [List.length_eq_zero_iff]
    refine List.eq_nil_iff_forall_not_mem.2 fun x hx => ?_
    obtain ⟨p1, p2⟩ := List.mem_filter.1 hx
    obtain ⟨t, a, u⟩ := x
    have p2 : a = id := by simpa using p2
    subst p2
    exact hn t ((h.all ht _ _).1 p1)
/-! ### WheelForgets: the loops -/
theorem F8_run (K : ((List I2 × (List I2 × Unit)) × (Int × (Int × (Bool × (Int × (Int × (Int × (Int × Unit)))))))) → Option ((Bool × Unit) × Unit)) (l m : List I2) (hm : m.length ≤ 65536) (came tick : Int) (an : Bool) (id n i : Int) :
    ∀ (c j f : Nat), j + c = m.length → c + 1 ≤ f → ∃ j' : Nat, j' ≤ m.length ∧ (m.drop j').filter (nid id) = (m.drop j).filter (nid id) ∧ (∀ h : j' < m.length, m[j'].2.1 ≠ id) ∧
      loopN (d4_L8 K) f ((l, (m, ())), ((j : Int), (came, (tick, (an, (id, (n, (i, ())))))))) = K ((l, (m, ())), (came, (tick, (an, (id, (n, (i, ((j' : Int), ()))))))))
  | 0, j, f + 1, h, hf => by
    refine ⟨j, by omega, rfl, fun h' => by omega, ?_⟩
    show d4_L8 K (loopN (d4_L8 K) f) _ = _
    generalize loopN (d4_L8 K) f = G
    unfold d4_L8
    have c1 : decide ((j : Int) < (m.length : Int)) = false := decide_eq_false (by omega)
    have c0 : (false == true) = false := rfl
    simp only [lt, c1, c0, Bool.false_and, Bool.not_false, Bool.true_or, if_true, Bool.false_eq_true, if_false]
  | c + 1, j, f + 1, h, hf => by
    have hj : j < m.length := by omega
    have c1 : decide ((j : Int) < (m.length : Int)) = true := decide_eq_true (by omega)
    have c2 : decide ((0 : Int) ≤ (j : Int)) = true := decide_eq_true (by omega)
    have c3 : decide ((j : Int).toNat < m.length) = true := decide_eq_true (by omega)
    have e2 : m.getD (j : Int).toNat (0, (0, ())) = m[j] := by rw [Int.toNat_natCast]; exact getD_get hj _
    have e4 : IntKind.i64.wrap ((j : Int) + 1) = ((j + 1 : Nat) : Int) := by rw [wrap_in _ (by omega)]; omega
    by_cases e : m[j].2.1 = id
    · obtain ⟨j', q1, q2, q3, q4⟩ := F8_run K l m hm came tick an id n i c (j + 1) f (by omega) (by omega)
      refine ⟨j', q1, ?_, q3, ?_⟩
      · rw [q2, List.drop_eq_getElem_cons hj, List.filter_cons_of_neg (by simp [nid, e])]
      · rw [← q4]
        show d4_L8 K (loopN (d4_L8 K) f) _ = _
        generalize loopN (d4_L8 K) f = G
        unfold d4_L8
        simp only [lt, shr, c1, c2, c3, Bool.and_true, Bool.or_true, if_true, e2, d4_K7, e4, e, beq_self_eq_true]
    · refine ⟨j, by omega, rfl, fun _ => e, ?_⟩
      show d4_L8 K (loopN (d4_L8 K) f) _ = _
      generalize loopN (d4_L8 K) f = G
      unfold d4_L8
      have e5 : (m[j].2.1 == id) = false := by simpa using e
      simp only [lt, shr, c1, c2, c3, Bool.and_true, Bool.or_true, if_true, e2, e5, Bool.false_eq_true, if_false]
theorem F3_run (K : ((List I2 × Unit) × (Bool × (Int × (Int × (Int × Unit))))) → Option ((Bool × Unit) × Unit)) (m : List I2) (hm : m.length ≤ 65536) (came : Int) (an : Bool) (id n : Int) :
    ∀ (c j f : Nat), j + c = m.length → c + 1 ≤ f → ∃ j' : Nat, j' ≤ m.length ∧ (m.drop j').filter (nid id) = (m.drop j).filter (nid id) ∧ (∀ h : j' < m.length, m[j'].2.1 ≠ id) ∧
      loopN (d4_L3 K) f ((m, ()), ((j : Int), (an, (came, (n, (id, ())))))) = K ((m, ()), (an, (came, (n, ((j' : Int), ())))))
  | 0, j, f + 1, h, hf => by
    refine ⟨j, by omega, rfl, fun h' => by omega, ?_⟩
    show d4_L3 K (loopN (d4_L3 K) f) _ = _
    generalize loopN (d4_L3 K) f = G
    unfold d4_L3
    have c1 : decide ((j : Int) < (m.length : Int)) = false := decide_eq_false (by omega)
    have c0 : (false == true) = false := rfl
    simp only [lt, c1, c0, Bool.false_and, Bool.not_false, Bool.true_or, if_true, Bool.false_eq_true, if_false]
  | c + 1, j, f + 1, h, hf => by
    have hj : j < m.length := by omega
    have c1 : decide ((j : Int) < (m.length : Int)) = true := decide_eq_true (by omega)
    have c2 : decide ((0 : Int) ≤ (j : Int)) = true := decide_eq_true (by omega)
    have c3 : decide ((j : Int).toNat < m.length) = true := decide_eq_true (by omega)
    have e2 : m.getD (j : Int).toNat (0, (0, ())) = m[j] := by rw [Int.toNat_natCast]; exact getD_get hj _
    have e4 : IntKind.i64.wrap ((j : Int) + 1) = ((j + 1 : Nat) : Int) := by rw [wrap_in _ (by omega)]; omega
    by_cases e : m[j].2.1 = id
    · obtain ⟨j', q1, q2, q3, q4⟩ := F3_run K m hm came an id n c (j + 1) f (by omega) (by omega)
      refine ⟨j', q1, ?_, q3, ?_⟩
      · rw [q2, List.drop_eq_getElem_cons hj, List.filter_cons_of_neg (by simp [nid, e])]
      · rw [← q4]
        show d4_L3 K (loopN (d4_L3 K) f) _ = _
        generalize loopN (d4_L3 K) f = G
        unfold d4_L3
        simp only [lt, shr, c1, c2, c3, Bool.and_true, Bool.or_true, if_true, e2, d4_K2, e4, e, beq_self_eq_true]
    · refine ⟨j, by omega, rfl, fun _ => e, ?_⟩
      show d4_L3 K (loopN (d4_L3 K) f) _ = _
      generalize loopN (d4_L3 K) f = G
      unfold d4_L3
      have e5 : (m[j].2.1 == id) = false := by simpa using e
      simp only [lt, shr, c1, c2, c3, Bool.and_true, Bool.or_true, if_true, e2, e5, Bool.false_eq_true, if_false]
end Go.Proofs.Ytlagcpfboljhnaa.L
