import Derived.Test.YticemfakkgebhaaDoorScrM2
namespace Go.Proofs.YticemfakkgebhaaDoor.L
open Go Go.Lift
set_option linter.unusedVariables false
set_option linter.unusedSimpArgs false
set_option maxRecDepth 100000

/-! ### woven -/
theorem d24_loop (k0 : Nat) (m a b : List IN) (hm : m.length ≤ 1000000) (hal : a.length ≤ 1000000) (hbl : b.length ≤ 1000000) (hdm : dOk m) (h0 : dMax m < k0) : ∀ r n i j k, n + r = m.length → r < k → i ≤ a.length → j ≤ b.length → m.drop n = mg (a.drop i) (b.drop j) →
    loopN (d24_L4 k0 d24_K1) k ((), ((n : Int), ((i : Int), ((j : Int), (b, (m, (a, ()))))))) = some ((true, ()), ()) := by
  intro r
  induction r with
  | zero =>
    intro n i j k hr hk hi hj he
    obtain ⟨k, rfl⟩ : ∃ k', k = k' + 1 := ⟨k - 1, by omega⟩
    rw [List.drop_eq_nil_of_le (show m.length ≤ n by omega)] at he
    have hl := mg_length _ (a.drop i) (b.drop j) rfl
    rw [← he] at hl
    simp only [List.length_nil, List.length_drop] at hl
    have h1 : i = a.length := by omega
    have h2 : j = b.length := by omega
    simp only [loopN, d24_L4, lt, dnlt (show m.length ≤ n by omega), Bool.false_eq_true, if_false, d24_K1, h1, h2, beq_self_eq_true, if_true]
  | succ r ih =>
    intro n i j k hr hk hi hj he
    obtain ⟨k, rfl⟩ : ∃ k', k = k' + 1 := ⟨k - 1, by omega⟩
    have hn : n < m.length := by omega
    have en : ∀ d, m.getD n d = m[n] := by simp [hn]
    have hl := mg_length _ (a.drop i) (b.drop j) rfl
    rw [← he] at hl
    simp only [List.length_drop] at hl
    rw [List.drop_eq_getElem_cons hn] at he
    have hmn := hdm m[n] (List.getElem_mem _)
    have hsm : ∀ y, d38 k0 (m[n], (y, ())) = some ((decide (m[n] = y), ()), ()) := fun y => sameInput k0 m[n] y (by omega) (Nat.lt_of_le_of_lt (dMax_le (List.getElem_mem _)) h0)
    have wn := wr1 (show n < 4611686018427387904 by omega)
    have wi := wr1 (show i < 4611686018427387904 by omega)
    have wj := wr1 (show j < 4611686018427387904 by omega)
    have bn : ∀ (x : Bool), (if x = true then true else true) = true := by intro x; cases x <;> rfl
    by_cases hia : i < a.length
    · have ea : ∀ d, a.getD i d = a[i] := by simp [hia]
      rw [List.drop_eq_getElem_cons hia] at he
      by_cases hjb : j < b.length
      · have eb : ∀ d, b.getD j d = b[j] := by simp [hjb]
        have gj : decide ((j : Int) ≥ (b.length : Int)) = false := decide_eq_false (by omega)
        rw [List.drop_eq_getElem_cons hjb] at he
        by_cases hx : a[i].1 ≤ b[j].1
        · rw [mg_le _ _ hx] at he
          obtain ⟨h1, h2⟩ := List.cons.inj he
          rw [h1] at hsm
          have hd : decide (a[i].1 ≤ b[j].1) = true := decide_eq_true hx
          have := ih (n + 1) (i + 1) j k (by omega) (by omega) (by omega) hj (by rw [List.drop_eq_getElem_cons hjb]; exact h2)
          simp only [loopN, d24_L4, lt, shr, dlt hn, dlt hia, dlt hjb, dge0, gj, hd, Int.toNat_natCast, en, ea, eb, hsm, h1, decide_true, if_true, Bool.and_self, Bool.and_true, Bool.true_and, Bool.not_true, Bool.not_false, Bool.or_true, Bool.true_or, Bool.false_or, beq_self_eq_true, Option.bind_some, Bool.false_eq_true, if_false, d24_K3, d24_K2, wn, wi]
          exact this
        · rw [mg_gt _ _ hx] at he
          obtain ⟨h1, h2⟩ := List.cons.inj he
          rw [h1] at hsm
          have hd : decide (a[i].1 ≤ b[j].1) = false := decide_eq_false hx
          have := ih (n + 1) i (j + 1) k (by omega) (by omega) hi (by omega) (by rw [List.drop_eq_getElem_cons hia]; exact h2)
          have hif : (if decide (b[j] = a[i]) = true then false else false) = false := by split <;> rfl
          simp only [loopN, d24_L4, lt, shr, dlt hn, dlt hia, dlt hjb, dge0, gj, hd, Int.toNat_natCast, en, ea, eb, hsm, h1, decide_true, if_true, Bool.and_self, Bool.and_true, Bool.true_and, Bool.not_true, Bool.not_false, Bool.or_true, Bool.true_or, Bool.false_or, beq_self_eq_true, Option.bind_some, Bool.false_eq_true, if_false, d24_K3, d24_K2, wn, wj, hif]
          exact this
      · have hj0 : j = b.length := by omega
        have gj : decide ((j : Int) ≥ (b.length : Int)) = true := decide_eq_true (by omega)
        rw [List.drop_eq_nil_of_le (show b.length ≤ j by omega), mg_nil'] at he
        obtain ⟨h1, h2⟩ := List.cons.inj he
        rw [h1] at hsm
        have := ih (n + 1) (i + 1) j k (by omega) (by omega) (by omega) hj (by rw [List.drop_eq_nil_of_le (show b.length ≤ j by omega), mg_nil']; exact h2)
        simp only [loopN, d24_L4, lt, shr, dlt hn, dlt hia, dge0, gj, Int.toNat_natCast, en, ea, hsm, h1, decide_true, if_true, Bool.and_self, Bool.and_true, Bool.true_and, Bool.not_true, Bool.not_false, Bool.or_true, Bool.true_or, Bool.false_or, beq_self_eq_true, Option.bind_some, Bool.false_eq_true, if_false, d24_K3, d24_K2, wn, wi, Bool.false_and, (show (true == false) = false from rfl)]
        exact this
    · have hi0 : i = a.length := by omega
      have hjb : j < b.length := by omega
      have eb : ∀ d, b.getD j d = b[j] := by simp [hjb]
      have gj : decide ((j : Int) ≥ (b.length : Int)) = false := decide_eq_false (by omega)
      rw [List.drop_eq_nil_of_le (show a.length ≤ i by omega), mg_nil, List.drop_eq_getElem_cons hjb] at he
      obtain ⟨h1, h2⟩ := List.cons.inj he
      rw [h1] at hsm
      have := ih (n + 1) i (j + 1) k (by omega) (by omega) hi (by omega) (by rw [List.drop_eq_nil_of_le (show a.length ≤ i by omega), mg_nil]; exact h2)
      simp only [loopN, d24_L4, lt, shr, dlt hn, dnlt (show a.length ≤ i by omega), dlt hjb, dge0, gj, Int.toNat_natCast, en, eb, hsm, h1, decide_true, if_true, Bool.and_self, Bool.and_true, Bool.true_and, Bool.not_true, Bool.not_false, Bool.or_true, Bool.true_or, Bool.false_or, beq_self_eq_true, Option.bind_some, Bool.false_eq_true, if_false, d24_K3, d24_K2, wn, wj, Bool.false_and, Bool.and_false, (show (false == true) = false from rfl)]
      exact this
theorem woven_ok (k : Nat) (a b : List IN) (hl : a.length + b.length ≤ 1000000) (ha : dOk a) (hb : dOk b) (hk : a.length + b.length < k) (h0 : dMax (mg a b) < k) : d24 k (mg a b, (a, (b, ()))) = some ((true, ()), ()) := by
  have hm := mg_length _ a b rfl
  have := d24_loop k (mg a b) a b (by omega) (by omega) (by omega) (fun x hx => (mg_mem _ _ _ rfl x hx).elim (ha x) (hb x)) h0 (a.length + b.length) 0 0 0 k (by omega) hk (by omega) (by omega) (by simp)
  simp only [d24, shr]
  exact this

/-! ### The statement -/
theorem dMax_sub {l l' : List IN} (h : ∀ x ∈ l, x ∈ l') : dMax l ≤ dMax l' := by
  have : ∀ l : List IN, (∀ x ∈ l, x.2.2.2.1.length ≤ dMax l') → dMax l ≤ dMax l' := by
    intro l hl
    induction l with
    | nil => exact Nat.zero_le _
    | cons x l ih =>
      simp only [dMax, List.map_cons, List.foldr_cons]
      exact Nat.max_le.2 ⟨hl x (List.mem_cons_self ..), ih fun y hy => hl y (List.mem_cons_of_mem _ hy)⟩
  exact this l fun x hx => dMax_le (h x hx)

theorem mg_app : ∀ (a b : List IN) (t : Int), (∀ x ∈ a, x.1 < t) → (∀ x ∈ b, t ≤ x.1) → mg a b = a ++ b := by
  intro a
  induction a with
  | nil => intro b t _ _; rw [mg_nil]; rfl
  | cons x a ih =>
    intro b t ha hb
    cases b with
    | nil => rw [mg_nil']; simp
    | cons y b =>
      have h1 := ha x (List.mem_cons_self ..)
      have h2 := hb y (List.mem_cons_self ..)
      rw [mg_le _ _ (by omega), ih (y :: b) t (fun z hz => ha z (List.mem_cons_of_mem _ hz)) hb]
      rfl
theorem rise_split (t : Int) : ∀ l : List IN, Rise l → l.filter (fun x => decide (x.1 < t)) ++ l.filter (fun x => decide (x.1 ≥ t)) = l := by
  intro l
  induction l with
  | nil => intro _; rfl
  | cons x l ih =>
    intro hr
    have hr' := List.pairwise_cons.1 hr
    have := ih hr'.2
    by_cases hx : x.1 < t
    · have h1 : decide (x.1 < t) = true := decide_eq_true hx
      have h2 : decide (x.1 ≥ t) = false := decide_eq_false (by omega)
      simp only [List.filter_cons, h1, h2, if_true, Bool.false_eq_true, if_false, List.cons_append, this]
    · have h1 : decide (x.1 < t) = false := decide_eq_false hx
      have h2 : decide (x.1 ≥ t) = true := decide_eq_true (by omega)
      have h3 : l.filter (fun x => decide (x.1 < t)) = [] := List.filter_eq_nil_iff.2 fun y hy => by
        have := hr'.1 y hy
        simp; omega
      rw [h3, List.nil_append] at this
      simp only [List.filter_cons, h1, h2, if_true, Bool.false_eq_true, if_false, h3, List.nil_append, this]

theorem d6_loop (K : (List IN × List IN × List IN × Unit) × Int × Unit → Option ((Bool × Unit) × Unit)) (m high low : List IN) (at_ : Int) (hb : m.length ≤ 1000000) (hK : (∀ x ∈ m, x.1 ≠ 9223372036854775807) → K ((high, (low, (m, ()))), (at_, ())) = some ((true, ()), ())) :
    ∀ n i k, i + n = m.length → n < k → (∀ j (h : j < m.length), j < i → m[j].1 ≠ 9223372036854775807) → loopN (d6_L3 K) k ((m, (high, (low, ()))), ((i : Int), (at_, ()))) = some ((true, ()), ()) := by
  intro n
  induction n with
  | zero =>
    intro i k hi hk hm
    obtain ⟨k, rfl⟩ : ∃ k', k = k' + 1 := ⟨k - 1, by omega⟩
    simp only [loopN, d6_L3, lt, dnlt (show m.length ≤ i by omega), Bool.false_eq_true, if_false]
    refine hK fun x hx => ?_
    obtain ⟨j, hj, rfl⟩ := List.getElem_of_mem hx
    exact hm j hj (by omega)
  | succ n ih =>
    intro i k hi hk hm
    obtain ⟨k, rfl⟩ : ∃ k', k = k' + 1 := ⟨k - 1, by omega⟩
    have h1 : i < m.length := by omega
    have e1 : ∀ d, m.getD i d = m[i] := by simp [h1]
    by_cases hx : m[i].1 = 9223372036854775807
    · have hd : (m[i].1 == 9223372036854775807) = true := by simpa using hx
      simp only [loopN, d6_L3, lt, shr, dlt h1, dge0, Bool.and_self, Bool.and_true, if_true, Int.toNat_natCast, e1, h1, decide_true, hd]
    · have hd : (m[i].1 == 9223372036854775807) = false := by simpa using hx
      simp only [loopN, d6_L3, lt, shr, dlt h1, dge0, Bool.and_self, Bool.and_true, if_true, Int.toNat_natCast, e1, h1, decide_true, hd, Bool.false_eq_true, if_false, d6_K2, wr1 (show i < 4611686018427387904 by omega)]
      refine ih (i + 1) k (by omega) (by omega) fun j hj hji => ?_
      rcases Nat.lt_or_ge j i with h | h
      · exact hm j hj h
      · have : j = i := by omega
        subst this; exact hx

def tOk (l : List IN) : Prop := ∀ x ∈ l, -9223372036854775808 ≤ x.1 ∧ x.1 ≤ 9223372036854775807

theorem merges_true (one two three : List IN) (at_ : Int) (h1 : one.length < 4611686018427387904) (h2 : two.length < 4611686018427387904) (h3 : three.length < 4611686018427387904) (d1 : dOk one) (d2 : dOk two) (d3 : dOk three) (t1 : tOk one) (t2 : tOk two) :
    ∃ k, d6 k (one, (two, (three, (at_, ())))) = some ((true, ()), ()) := by
  refine ⟨dMax one + dMax two + dMax three + 5000, ?_⟩
  generalize hk : dMax one + dMax two + dMax three + 5000 = k
  obtain ⟨a, a1, a2, a3, a4⟩ := sorted_ok k one h1 (by omega)
  obtain ⟨b, b1, b2, b3, b4⟩ := sorted_ok k two h2 (by omega)
  obtain ⟨c, c1, c2, c3, c4⟩ := sorted_ok k three h3 (by omega)
  have da : dOk a := fun x hx => d1 x (a4 x hx)
  have db : dOk b := fun x hx => d2 x (b4 x hx)
  have dc : dOk c := fun x hx => d3 x (c4 x hx)
  have ma : dMax a ≤ dMax one := dMax_sub a4
  have mb : dMax b ≤ dMax two := dMax_sub b4
  have mc : dMax c ≤ dMax three := dMax_sub c4
  have hab := mg_length _ a b rfl
  have hbc := mg_length _ b c rfl
  have dab : dOk (mg a b) := fun x hx => (mg_mem _ _ _ rfl x hx).elim (da x) (db x)
  have dbc : dOk (mg b c) := fun x hx => (mg_mem _ _ _ rfl x hx).elim (db x) (dc x)
  have le_of : ∀ (l : List IN) (n : Nat), (∀ x ∈ l, x.2.2.2.1.length ≤ n) → dMax l ≤ n := by
    intro l n hl
    induction l with
    | nil => exact Nat.zero_le _
    | cons x l ih =>
      simp only [dMax, List.map_cons, List.foldr_cons]
      exact Nat.max_le.2 ⟨hl x (List.mem_cons_self ..), ih fun y hy => hl y (List.mem_cons_of_mem _ hy)⟩
  have mab : dMax (mg a b) ≤ dMax one + dMax two := le_of _ _ fun x hx => (mg_mem _ _ _ rfl x hx).elim (fun h => by have := dMax_le h; omega) fun h => by have := dMax_le h; omega
  have rab := mg_rise _ a b rfl a2 b2
  have s19 : d19 k () = some ((true, ()), ()) := by
    rw [show k = (k - 60) + 60 by omega]; exact known_true _
  have s22 := merge_ok k a b (by omega) (by omega) da db
  have s23 := rising_ok k (mg a b) (by omega) rab (by omega)
  have s24 := woven_ok k a b (by omega) da db (by omega) (by omega)
  have s22a := merge_ok k a [] (by simp; omega) (by simp; omega) da (by intro x hx; cases hx)
  have s22b := merge_ok k [] a (by simp; omega) (by simp; omega) (by intro x hx; cases hx) da
  rw [mg_nil'] at s22a
  rw [mg_nil] at s22b
  have s15a := same_eq k a (by omega) da (by omega) (by omega)
  have s22c := merge_ok k (mg a b) c (by omega) (by omega) dab dc
  have s22d := merge_ok k b c (by omega) (by omega) db dc
  have s22e := merge_ok k a (mg b c) (by omega) (by omega) da dbc
  have has := mg_assoc _ a b c rfl
  have habc := mg_length _ a (mg b c) rfl
  have mabc : dMax (mg a (mg b c)) ≤ dMax one + dMax two + dMax three := le_of _ _ fun x hx => (mg_mem _ _ _ rfl x hx).elim (fun h => by have := dMax_le h; omega) fun h => (mg_mem _ _ _ rfl x h).elim (fun h => by have := dMax_le h; omega) (fun h => by have := dMax_le h; omega)
  have s15b := same_eq k (mg a (mg b c)) (by omega) (fun x hx => (mg_mem _ _ _ rfl x hx).elim (da x) (dbc x)) (by omega) (by omega)
  have s25a := cut_ok k (mg a b) (-9223372036854775808) at_ (by omega) dab (by omega)
  have s25b := cut_ok k (mg a b) at_ 9223372036854775807 (by omega) dab (by omega)
  rw [has] at s22c
  generalize hlow : (mg a b).filter (cutP (-9223372036854775808) at_) = low at s25a
  generalize hhigh : (mg a b).filter (cutP at_ 9223372036854775807) = high at s25b
  have tab : ∀ x ∈ mg a b, -9223372036854775808 ≤ x.1 ∧ x.1 ≤ 9223372036854775807 := fun x hx => (mg_mem _ _ _ rfl x hx).elim (fun h => t1 x (a4 x h)) fun h => t2 x (b4 x h)
  have final := d6_loop (d6_K1 k) (mg a b) high low at_ (by omega) (fun hne => by
    have el : low = (mg a b).filter (fun x => decide (x.1 < at_)) := by
      rw [← hlow]
      refine List.filter_congr fun x hx => ?_
      unfold cutP
      rw [decide_eq_true (show x.1 ≥ -9223372036854775808 from (tab x hx).1)]
      simp
    have eh : high = (mg a b).filter (fun x => decide (x.1 ≥ at_)) := by
      rw [← hhigh]
      refine List.filter_congr fun x hx => ?_
      unfold cutP
      have := hne x hx
      have := (tab x hx).2
      rw [decide_eq_true (show x.1 < 9223372036854775807 by omega)]
      simp
    have hl1 : low.length ≤ (mg a b).length := by rw [el]; exact List.length_filter_le ..
    have hl2 : high.length ≤ (mg a b).length := by rw [eh]; exact List.length_filter_le ..
    have dl : dOk low := fun x hx => dab x (by rw [el] at hx; exact (List.mem_filter.1 hx).1)
    have dh : dOk high := fun x hx => dab x (by rw [eh] at hx; exact (List.mem_filter.1 hx).1)
    have ql : ∀ x ∈ low, x.1 < at_ := fun x hx => by rw [el] at hx; simpa using (List.mem_filter.1 hx).2
    have qh : ∀ x ∈ high, at_ ≤ x.1 := fun x hx => by rw [eh] at hx; simpa using (List.mem_filter.1 hx).2
    have hm : mg low high = mg a b := by
      rw [mg_app low high at_ ql qh, el, eh]
      exact rise_split at_ _ rab
    have u22 := merge_ok k low high (by omega) (by omega) dl dh
    rw [hm] at u22
    have u15 := same_eq k (mg a b) (by omega) dab (by omega) (by omega)
    simp only [d6_K1, lt, u22, u15, Option.bind_some]
    have pl : low.length = 0 ∨ (low.length ≠ 0 ∧ low.length - 1 < low.length) := by omega
    have ph : high.length = 0 ∨ (high.length ≠ 0 ∧ 0 < high.length) := by omega
    have zz : Int.toNat 0 = 0 := rfl
    have wl : low.length ≠ 0 → IntKind.wrap .i64 ((low.length : Int) - 1) = ((low.length - 1 : Nat) : Int) := fun h => wrp (by omega) (by omega)
    rcases pl with pl | ⟨pl, pl'⟩
    · have zl : ((low.length : Int) == 0) = true := by rw [pl]; rfl
      rcases ph with ph | ⟨ph, ph'⟩
      · have zh : ((high.length : Int) == 0) = true := by rw [ph]; rfl
        simp only [zl, zh, (show (true == false) = false from rfl), Bool.false_and, Bool.not_false, Bool.true_or, if_true]
      · have zh : ((high.length : Int) == 0) = false := by rw [beq_eq_false_iff_ne]; omega
        have eh0 : ∀ d, high.getD 0 d = high[0] := by simp [ph']
        have c2 : decide (high[0].1 ≥ at_) = true := decide_eq_true (qh _ (List.getElem_mem _))
        have dz : decide ((0 : Int) < (high.length : Int)) = true := decide_eq_true (by omega)
        simp only [zl, zh, (show (true == false) = false from rfl), Bool.false_and, Bool.not_false, Bool.true_or, if_true, zz, eh0, c2, dz, ph', decide_true, Bool.and_true, Bool.and_self, Bool.or_true, (show decide ((0 : Int) ≤ 0) = true from rfl), Bool.false_eq_true, if_false]
    · have zl : ((low.length : Int) == 0) = false := by rw [beq_eq_false_iff_ne]; omega
      have el0 : ∀ d, low.getD (low.length - 1) d = low[low.length - 1] := by simp [pl']
      have c1 : decide (low[low.length - 1].1 < at_) = true := decide_eq_true (ql _ (List.getElem_mem _))
      rcases ph with ph | ⟨ph, ph'⟩
      · have zh : ((high.length : Int) == 0) = true := by rw [ph]; rfl
        simp only [zl, zh, wl pl, dge0, dlt pl', Int.toNat_natCast, el0, c1, pl', decide_true, (show (true == false) = false from rfl), beq_self_eq_true, Bool.false_and, Bool.and_true, Bool.and_self, Bool.not_true, Bool.false_or, Bool.not_false, Bool.true_or, if_true, Bool.or_true, Bool.false_eq_true, if_false]
      · have zh : ((high.length : Int) == 0) = false := by rw [beq_eq_false_iff_ne]; omega
        have eh0 : ∀ d, high.getD 0 d = high[0] := by simp [ph']
        have c2 : decide (high[0].1 ≥ at_) = true := decide_eq_true (qh _ (List.getElem_mem _))
        have dz : decide ((0 : Int) < (high.length : Int)) = true := decide_eq_true (by omega)
        simp only [zl, zh, wl pl, dge0, dlt pl', Int.toNat_natCast, el0, c1, pl', zz, eh0, c2, dz, ph', decide_true, (show (true == false) = false from rfl), beq_self_eq_true, Bool.false_and, Bool.and_true, Bool.and_self, Bool.not_true, Bool.false_or, Bool.not_false, Bool.true_or, if_true, Bool.or_true, (show decide ((0 : Int) ≤ 0) = true from rfl), Bool.false_eq_true, if_false])
    (mg a b).length 0 k (by omega) (by omega) (fun j _ h => by omega)
  have em : (Neg.neg (9223372036854775808 : Int)) = -9223372036854775808 := rfl
  simp only [d6, lt, shr, s19, a1, b1, c1, s22, s23, s24, s22a, s22b, s15a, s22c, s22d, s22e, s15b, s25a, s25b, Option.bind_some, Bool.not_true, Bool.false_eq_true, if_false, beq_self_eq_true, Bool.and_self, if_true, em]
  exact final
end Go.Proofs.YticemfakkgebhaaDoor.L
