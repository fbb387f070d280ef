import Derived.Test.YticemfakkgebhaaDoorScrR2
namespace Go.Proofs.YticemfakkgebhaaDoor.L
open Go Go.Lift
set_option linter.unusedVariables false
set_option linter.unusedSimpArgs false
set_option maxRecDepth 100000

theorem fitN {n m : Nat} (h : n + m ≤ 140737488355328) : appFits n m 1 = true := by
  simp only [appFits, Bool.and_eq_true, decide_eq_true_eq]; omega

/-! ### joined -/
def told (x : IN) : List Int := sbytes ((showS x).getD emB) ++ [10]
def goodL (l : List IN) : Prop := ∀ x ∈ l, dI x ∧ ∃ s, showS x = some s
theorem d18_loop (k0 : Nat) (hk0 : 40 < k0) (l : List IN) (hl : l.length < 4611686018427387904) (hg : goodL l) : ∀ n i k (out : List Int), i + n = l.length → n < k → out.length + ((l.drop i).flatMap told).length ≤ 140737488355328 →
    loopN (d18_L3 k0 d18_K1) k ((out, ()), ((i : Int), (l, ()))) = some ((out ++ (l.drop i).flatMap told, (true, ())), ()) := by
  intro n
  induction n with
  | zero =>
    intro i k out hi hk ho
    obtain ⟨k, rfl⟩ : ∃ k', k = k' + 1 := ⟨k - 1, by omega⟩
    simp only [loopN, d18_L3, lt, dnlt (show l.length ≤ i by omega), Bool.false_eq_true, if_false]
    rw [List.drop_eq_nil_of_le (by omega)]
    simp [d18_K1]
  | succ n ih =>
    intro i k out hi hk ho
    obtain ⟨k, rfl⟩ : ∃ k', k = k' + 1 := ⟨k - 1, by omega⟩
    have h1 : i < l.length := by omega
    have e1 : ∀ d, l.getD i d = l[i] := by simp [h1]
    obtain ⟨hd, s, hs⟩ := hg l[i] (List.getElem_mem _)
    have hsh := show_eq k0 (by omega) l[i] hd
    rw [hs] at hsh
    rw [List.drop_eq_getElem_cons h1, List.flatMap_cons] at ho ⊢
    have ht : told l[i] = sbytes s ++ [10] := by unfold told; rw [hs]; rfl
    rw [ht] at ho ⊢
    simp only [List.length_append, List.length_singleton] at ho
    have f1 : appFits out.length (sbytes s).length 1 = true := fitN (by omega)
    have f2 : appFits (out ++ sbytes s).length 1 1 = true := fitN (by rw [List.length_append]; omega)
    have := ih (i + 1) k (out ++ sbytes s ++ [10]) (by omega) (by omega) (by simp only [List.length_append, List.length_singleton]; omega)
    simp only [loopN, d18_L3, lt, shr, dlt h1, dge0, Bool.and_self, if_true, Int.toNat_natCast, e1, hsh, outOf, Option.bind_some, Bool.not_true, Bool.false_eq_true, if_false, f1, List.length_singleton, f2, d18_K2, wr1 (show i < 4611686018427387904 by omega), this]
    simp only [List.append_assoc]
theorem joined_eq (k : Nat) (l : List IN) (hk : l.length + 50 < k) (hl : l.length < 4611686018427387904) (hg : goodL l) (hf : (l.flatMap told).length ≤ 140737488355328) : d18 k (l, ()) = some ((l.flatMap told, (true, ())), ()) := by
  have := d18_loop k (by omega) l hl hg l.length 0 k [] (by omega) (by omega) (by simpa using hf)
  simp only [d18, shr]
  refine Eq.trans this ?_
  simp

/-! ### passed -/
def passedL (ps : List (List Int)) : List Int := ps.flatMap fun p => if skip p = true then [] else p ++ [10]
theorem skip_at (t : List Int) {from_ i : Nat} (h1 : from_ ≤ i) (h2 : i ≤ t.length) (d : Int) : (if decide ((i : Int) > (from_ : Int)) = true then (t.getD from_ d != 35) else false) = !skip ((t.take i).drop from_) := by
  by_cases h : from_ < i
  · have hlt : from_ < (t.take i).length := by rw [List.length_take]; omega
    have hf : from_ < t.length := by omega
    rw [if_pos (decide_eq_true (by omega)), List.drop_eq_getElem_cons hlt]
    have e1 : t.getD from_ d = t[from_] := by simp [hf]
    rw [e1]
    unfold skip
    simp only [List.isEmpty_cons, Bool.false_or, List.head?_cons, List.getElem_take]
    by_cases hx : t[from_] = 35 <;> simp [hx]; rfl
  · have : from_ = i := by omega
    subst this
    rw [if_neg (by rw [decide_eq_true_eq]; omega), List.drop_eq_nil_of_le (by rw [List.length_take]; omega)]
    rfl
theorem drop_parts (t : List Int) {from_ i : Nat} (h1 : from_ ≤ i) (h2 : i ≤ t.length) : t.drop from_ = (t.take i).drop from_ ++ t.drop i := by
  conv => lhs; rw [← List.take_append_drop i t]
  rw [List.drop_append_of_le_length (by rw [List.length_take]; omega)]

theorem d20_step {K : (List Int × Unit) × Unit → Option ((List Int × Unit) × Unit)} (t : List Int) (hl : t.length ≤ 1000000000000) {k i from_ : Nat} {out : List Int} (h1 : from_ ≤ i) (h2 : i ≤ t.length) (ho : out.length + 2 * (t.length - from_) + 2 ≤ 100000000000000)
    (hc : i = t.length ∨ t.getD i 0 = 10) : loopN (d20_L4 K) (k + 1) ((out, ()), ((i : Int), ((from_ : Int), (t, ())))) =
      loopN (d20_L4 K) k ((out ++ (if skip ((t.take i).drop from_) = true then [] else (t.take i).drop from_ ++ [10]), ()), (((i + 1 : Nat) : Int), (((i + 1 : Nat) : Int), (t, ())))) := by
  have c1 : decide ((i : Int) ≤ (t.length : Int)) = true := decide_eq_true (by omega)
  have hw := wr1 (show i < 4611686018427387904 by omega)
  have g1 : (!(decide ((i : Int) < (t.length : Int)) == true) || decide ((i : Int) < (t.length : Int))) = true := by cases decide ((i : Int) < (t.length : Int)) <;> rfl
  have x12 : (if decide ((i : Int) < (t.length : Int)) = true then (t.getD i 0 != 10) else false) = false := by
    rcases hc with hc | hc
    · rw [if_neg (by rw [decide_eq_true_eq]; omega)]
    · rw [hc]; simp
  have g2 : (!(decide ((i : Int) > (from_ : Int)) == true) || decide ((from_ : Int) < (t.length : Int))) = true := by
    by_cases h : (i : Int) > (from_ : Int)
    · rw [decide_eq_true (show (from_ : Int) < (t.length : Int) by omega)]; simp
    · rw [decide_eq_false h]; rfl
  have x16 := skip_at t h1 h2 0
  have hp : ((t.take i).drop from_).length = i - from_ := by rw [List.length_drop, List.length_take]; omega
  have f1 : appFits out.length ((t.take i).drop from_).length 1 = true := fitN (by rw [hp]; omega)
  have f2 : appFits (out ++ (t.take i).drop from_).length 1 1 = true := fitN (by rw [List.length_append, hp]; omega)
  have s1 : decide (from_ ≤ i) = true := decide_eq_true h1
  have s2 : decide (i ≤ t.length) = true := decide_eq_true h2
  by_cases hs : skip ((t.take i).drop from_) = true
  · rw [hs] at x16
    simp only [loopN, d20_L4, lt, shr, c1, dge0, if_true, Int.toNat_natCast, Bool.and_true, Bool.true_and, g1, x12, g2, x16, Bool.not_true, Bool.false_eq_true, if_false, d20_K3, d20_K2, hw, hs, List.append_nil]
  · have hs' : skip ((t.take i).drop from_) = false := by simpa using hs
    rw [hs'] at x16
    simp only [loopN, d20_L4, lt, shr, c1, dge0, if_true, Int.toNat_natCast, Bool.and_true, Bool.true_and, Bool.and_self, g1, x12, g2, x16, Bool.not_false, Bool.false_eq_true, if_false, d20_K3, d20_K2, hw, hs', s1, s2, f1, List.length_singleton, f2]
    rw [List.append_assoc]
theorem d20_loop (t : List Int) (hl : t.length ≤ 1000000000000) : ∀ n i k from_ (out : List Int), i + n = t.length → n + 1 < k → from_ ≤ i → (10 : Int) ∉ (t.take i).drop from_ → out.length + 2 * (t.length - from_) + 2 ≤ 100000000000000 →
    loopN (d20_L4 d20_K1) k ((out, ()), ((i : Int), ((from_ : Int), (t, ())))) = some ((out ++ passedL (snl 10 (t.drop from_)), ()), ()) := by
  intro n
  induction n with
  | zero =>
    intro i k from_ out hi hk hf hn ho
    obtain ⟨k, rfl⟩ : ∃ k', k = k' + 1 := ⟨k - 1, by omega⟩
    rw [d20_step t hl hf (by omega) ho (.inl (by omega))]
    obtain ⟨k, rfl⟩ : ∃ k', k = k' + 1 := ⟨k - 1, by omega⟩
    have c1 : decide (((i + 1 : Nat) : Int) ≤ (t.length : Int)) = false := decide_eq_false (by omega)
    simp only [loopN, d20_L4, lt, c1, Bool.false_eq_true, if_false, d20_K1]
    rw [drop_parts t hf (by omega), List.drop_eq_nil_of_le (show t.length ≤ i by omega), List.append_nil, snl_one 10 _ hn]
    simp [passedL]
  | succ n ih =>
    intro i k from_ out hi hk hf hn ho
    obtain ⟨k, rfl⟩ : ∃ k', k = k' + 1 := ⟨k - 1, by omega⟩
    have h1 : i < t.length := by omega
    by_cases hc : t.getD i 0 = 10
    · rw [d20_step t hl hf (by omega) ho (.inr hc)]
      have hp : ((t.take i).drop from_).length = i - from_ := by rw [List.length_drop, List.length_take]; omega
      rw [ih (i + 1) k (i + 1) _ (by omega) (by omega) (Nat.le_refl _) (by rw [List.drop_eq_nil_of_le (by rw [List.length_take]; omega)]; simp) (by
        rw [List.length_append]
        have : (if skip ((t.take i).drop from_) = true then [] else (t.take i).drop from_ ++ [10]).length ≤ i - from_ + 1 := by
          split
          · simp
          · rw [List.length_append, hp]; simp
        omega)]
      have e1 : t.getD i 0 = t[i] := by simp [h1]
      rw [drop_parts t hf (show i ≤ t.length by omega), List.drop_eq_getElem_cons h1, ← e1, hc, snl_app 10 _ _ hn]
      simp only [passedL, List.flatMap_cons, List.append_assoc]
    · have c1 : decide ((i : Int) ≤ (t.length : Int)) = true := decide_eq_true (by omega)
      have hne : (t.getD i 0 != 10) = true := by simpa using hc
      simp only [loopN, d20_L4, lt, shr, c1, dlt h1, dge0, Bool.and_self, Bool.or_true, if_true, Int.toNat_natCast, hne, d20_K2, wr1 (show i < 4611686018427387904 by omega)]
      refine ih (i + 1) k from_ out (by omega) (by omega) (by omega) ?_ ho
      rw [List.take_add_one, List.getElem?_eq_getElem h1, List.drop_append_of_le_length (by rw [List.length_take]; omega)]
      intro hm
      rcases List.mem_append.1 hm with hm | hm
      · exact hn hm
      · have e1 : t.getD i 0 = t[i] := by simp [h1]
        simp at hm
        exact hc (by rw [e1, ← hm])
theorem passed_eq (k : Nat) (t : List Int) (hl : t.length ≤ 1000000000000) (hk : t.length + 10 < k) : d20 k (t, ()) = some ((passedL (snl 10 t), ()), ()) := by
  have := d20_loop t hl t.length 0 k 0 [] (by omega) (by omega) (Nat.le_refl _) (by simp) (by simp; omega)
  simp only [d20, shr]
  refine Eq.trans this ?_
  simp

/-! ### same -/
theorem d16_loop (K : Unit × Unit → Option ((Bool × Unit) × Unit)) (x : List Int) (hb : x.length < 4611686018427387904) : ∀ n i k, i + n = x.length → n < k →
    loopN (d16_L2 K) k ((), ((i : Int), (x, (x, ())))) = K ((), ()) := by
  intro n
  induction n with
  | zero =>
    intro i k hi hk
    obtain ⟨k, rfl⟩ : ∃ k', k = k' + 1 := ⟨k - 1, by omega⟩
    simp only [loopN, d16_L2, lt, dnlt (show x.length ≤ i by omega), Bool.false_eq_true, if_false]
  | succ n ih =>
    intro i k hi hk
    obtain ⟨k, rfl⟩ : ∃ k', k = k' + 1 := ⟨k - 1, by omega⟩
    have h1 : i < x.length := by omega
    simp only [loopN, d16_L2, lt, shr, dlt h1, dge0, Bool.and_self, if_true, Int.toNat_natCast, bne_self_eq_false, Bool.false_eq_true, if_false, d16_K1, wr1 (show i < 4611686018427387904 by omega)]
    exact ih (i + 1) k (by omega) (by omega)
theorem sameI_eq (k : Nat) (x : List Int) (hb : x.length < 4611686018427387904) (hk : x.length < k) : d16 k (x, (x, ())) = some ((true, ()), ()) := by
  have := d16_loop (fun _ => some ((true, ()), ())) x hb x.length 0 k (by simp) hk
  simp only [d16, lt, shr, bne_self_eq_false, Bool.false_eq_true, if_false]
  exact this

/-! ### The statement -/
theorem snl_mem {α : Type} [DecidableEq α] (c : α) : ∀ (l : List α), ∀ p ∈ snl c l, ∀ a ∈ p, a ∈ l
  | [], p, hp, a, ha => by
    have : p = [] := by simpa [snl] using hp
    rw [this] at ha; cases ha
  | b :: l, p, hp, a, ha => by
    by_cases h : b = c
    · subst h
      rw [snl_cons_eq] at hp
      rcases List.mem_cons.1 hp with rfl | hp
      · cases ha
      · exact List.mem_cons_of_mem _ (snl_mem b l p hp a ha)
    · obtain ⟨q, qs, hq⟩ := snl_ne c l
      rw [snl_cons_ne h hq] at hp
      rcases List.mem_cons.1 hp with rfl | hp
      · rcases List.mem_cons.1 ha with rfl | ha
        · exact List.mem_cons_self ..
        · exact List.mem_cons_of_mem _ (snl_mem c l q (by rw [hq]; exact List.mem_cons_self ..) a ha)
      · exact List.mem_cons_of_mem _ (snl_mem c l p (by rw [hq]; exact List.mem_cons_of_mem _ hp) a ha)
theorem byteL_sub {l p : List Int} (h : byteL l = true) (hs : ∀ a ∈ p, a ∈ l) : byteL p = true := by
  unfold byteL at *
  rw [List.all_eq_true] at *
  exact fun a ha => h a (hs a ha)

theorem readL_ok : ∀ (ps : List (List Int)) (i : Nat) (out : List IN), (∀ p ∈ ps, byteL p = true) → (readL ps i out).2.1 = 0 →
    ∃ l, readL ps i out = (out ++ l, 0, 0) ∧ goodL l ∧ l.flatMap told = passedL ps ∧ l.length ≤ ps.length
  | [], i, out, hb, h => ⟨[], by simp [readL], (by intro x hx; cases hx), rfl, Nat.le_refl _⟩
  | p :: ps, i, out, hb, h => by
    have hb' : ∀ q ∈ ps, byteL q = true := fun q hq => hb q (List.mem_cons_of_mem _ hq)
    unfold readL at h ⊢
    by_cases hs : skip p = true
    · rw [if_pos hs] at h ⊢
      obtain ⟨l, h1, h2, h3, h4⟩ := readL_ok ps (i + 1) out hb' h
      exact ⟨l, h1, h2, by rw [h3]; simp [passedL, hs], by simp; omega⟩
    · rw [if_neg hs] at h ⊢
      by_cases hm : out.length = 65536
      · rw [if_pos hm] at h; cases h
      · rw [if_neg hm] at h ⊢
        by_cases hx : (parse (bstr p)).2 = true
        · rw [if_pos hx] at h ⊢
          obtain ⟨l, h1, h2, h3, h4⟩ := readL_ok ps (i + 1) (out ++ [(parse (bstr p)).1]) hb' h
          have hsh := parse_shows hx
          refine ⟨(parse (bstr p)).1 :: l, by rw [h1, List.append_assoc]; rfl, fun x hxx => ?_, ?_, by simp; omega⟩
          · rcases List.mem_cons.1 hxx with rfl | hxx
            · exact ⟨parse_dI _, _, hsh⟩
            · exact h2 x hxx
          · rw [List.flatMap_cons, h3]
            have : told (parse (bstr p)).1 = p ++ [10] := by
              unfold told
              rw [hsh, Option.getD_some, sbytes_bstr (hb p (List.mem_cons_self ..))]
            rw [this]
            simp [passedL, hs]
        · rw [if_neg hx] at h; cases h
theorem readL_err : ∀ (ps : List (List Int)) (i : Nat) (out : List IN), (readL ps i out).2.1 ≠ 0 → (readL ps i out).1 = [] ∧ ((readL ps i out).2.1 = 20 ∨ (readL ps i out).2.1 = 1) ∧ 1 ≤ (readL ps i out).2.2
  | [], i, out, h => absurd rfl h
  | p :: ps, i, out, h => by
    unfold readL at h ⊢
    by_cases hs : skip p = true
    · rw [if_pos hs] at h ⊢
      exact readL_err ps (i + 1) out h
    · rw [if_neg hs] at h ⊢
      by_cases hm : out.length = 65536
      · rw [if_pos hm]
        exact ⟨rfl, .inr rfl, by show (1 : Int) ≤ ((i + 1 : Nat) : Int); omega⟩
      · rw [if_neg hm] at h ⊢
        by_cases hx : (parse (bstr p)).2 = true
        · rw [if_pos hx] at h ⊢
          exact readL_err ps (i + 1) _ h
        · rw [if_neg hx]
          exact ⟨rfl, .inl rfl, by show (1 : Int) ≤ ((i + 1 : Nat) : Int); omega⟩
theorem passed_len (ps : List (List Int)) : (passedL ps).length ≤ ps.length + (ps.map List.length).sum := by
  induction ps with
  | nil => simp [passedL]
  | cons p ps ih =>
    have : passedL (p :: ps) = (if skip p = true then [] else p ++ [10]) ++ passedL ps := by simp [passedL]
    rw [this, List.length_append, List.length_cons, List.map_cons, List.sum_cons]
    split
    · simp; omega
    · simp; omega
theorem snl_sum {α : Type} [DecidableEq α] (c : α) : ∀ l : List α, ((snl c l).map List.length).sum ≤ l.length
  | [] => by simp [snl]
  | a :: l => by
    have ih := snl_sum c l
    by_cases h : a = c
    · subst h; rw [snl_cons_eq, List.map_cons, List.sum_cons]; simp; omega
    · obtain ⟨p, ps, hp⟩ := snl_ne c l
      rw [hp, List.map_cons, List.sum_cons] at ih
      rw [snl_cons_ne h hp, List.map_cons, List.sum_cons]
      simp only [List.length_cons]; omega

theorem reads_true (text : List Int) (hb : byteL text = true) (hl : text.length ≤ 2000000) : ∃ k, d5 k (text, ()) = some ((true, ()), ()) := by
  refine ⟨2 * text.length + 5000, ?_⟩
  generalize hk : 2 * text.length + 5000 = k
  have f1 : appFits ([] : List Int).length text.length 1 = true := fitN (by simp; omega)
  have hr := read_eq k text hb (by omega) (by omega)
  have s19 : d19 k () = some ((true, ()), ()) := by
    rw [show k = (k - 60) + 60 by omega]; exact known_true _
  have hbd := snl_bounds 10 text
  have hsum := snl_sum 10 text
  have hbp : ∀ p ∈ snl 10 text, byteL p = true := fun p hp => byteL_sub hb (snl_mem 10 text p hp)
  simp only [d5, lt, f1, if_true, List.nil_append, hr, Option.bind_some, tup3]
  by_cases h0 : (readL (snl 10 text) 0 []).2.1 = 0
  · obtain ⟨l, h1, h2, h3, h4⟩ := readL_ok _ _ _ hbp h0
    rw [List.nil_append] at h1
    have hpl := passed_len (snl 10 text)
    have hj := joined_eq k l (by omega) (by omega) h2 (by rw [h3]; omega)
    have hp := passed_eq k text (by omega) (by omega)
    rw [h3] at hj
    have hs := sameI_eq k (passedL (snl 10 text)) (by omega) (by omega)
    rw [h1]
    simp only [bne_self_eq_false, Bool.false_eq_true, if_false, hj, hp, hs, s19, Option.bind_some, beq_self_eq_true, if_true, Bool.and_self]
  · obtain ⟨h1, h2, h3⟩ := readL_err _ _ _ h0
    have hne : ((readL (snl 10 text) 0 []).2.1 != 0) = true := by simpa using h0
    have hge : decide ((readL (snl 10 text) 0 []).2.2 ≥ 1) = true := decide_eq_true h3
    rw [h1]
    simp only [hne, if_true, s19, Option.bind_some, hge]
    rcases h2 with h2 | h2 <;> rw [h2] <;> rfl
end Go.Proofs.YticemfakkgebhaaDoor.L
