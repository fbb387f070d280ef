import Derived.Test.YticemfakkgebhaaDoorScrM
namespace Go.Proofs.YticemfakkgebhaaDoor.L
open Go Go.Lift
set_option linter.unusedVariables false
set_option linter.unusedSimpArgs false
set_option maxRecDepth 100000

/-! ### Merge -/
def mg : List IN → List IN → List IN
  | [], b => b
  | x :: a, [] => x :: a
  | x :: a, y :: b => if x.1 ≤ y.1 then x :: mg a (y :: b) else y :: mg (x :: a) b
termination_by a b => a.length + b.length

theorem mg_nil (b : List IN) : mg [] b = b := by unfold mg; rfl
theorem mg_nil' (a : List IN) : mg a [] = a := by cases a <;> (unfold mg; rfl)
theorem mg_le {x y : IN} (a b : List IN) (h : x.1 ≤ y.1) : mg (x :: a) (y :: b) = x :: mg a (y :: b) := by rw [mg, if_pos h]
theorem mg_gt {x y : IN} (a b : List IN) (h : ¬ x.1 ≤ y.1) : mg (x :: a) (y :: b) = y :: mg (x :: a) b := by rw [mg, if_neg h]
theorem mg_length : ∀ (n : Nat) (a b : List IN), a.length + b.length = n → (mg a b).length = n := by
  intro n
  induction n with
  | zero => intro a b h; cases a <;> cases b <;> simp_all [mg]
  | succ n ih =>
    intro a b h
    cases a with
    | nil => rw [mg_nil]; simpa using h
    | cons x a =>
      cases b with
      | nil => rw [mg_nil']; simpa using h
      | cons y b =>
        simp only [List.length_cons] at h
        by_cases hx : x.1 ≤ y.1
        · rw [mg_le _ _ hx, List.length_cons, ih a (y :: b) (by simp; omega)]
        · rw [mg_gt _ _ hx, List.length_cons, ih (x :: a) b (by simp; omega)]
theorem mg_mem : ∀ (n : Nat) (a b : List IN), a.length + b.length = n → ∀ z, z ∈ mg a b → z ∈ a ∨ z ∈ b := by
  intro n
  induction n with
  | zero => intro a b h z; cases a <;> cases b <;> simp_all [mg]
  | succ n ih =>
    intro a b h z hz
    cases a with
    | nil => rw [mg_nil] at hz; exact .inr hz
    | cons x a =>
      cases b with
      | nil => rw [mg_nil'] at hz; exact .inl hz
      | cons y b =>
        simp only [List.length_cons] at h
        by_cases hx : x.1 ≤ y.1
        · rw [mg_le _ _ hx] at hz
          rcases List.mem_cons.1 hz with rfl | hz
          · exact .inl (List.mem_cons_self ..)
          · rcases ih a (y :: b) (by simp; omega) z hz with h | h
            · exact .inl (List.mem_cons_of_mem _ h)
            · exact .inr h
        · rw [mg_gt _ _ hx] at hz
          rcases List.mem_cons.1 hz with rfl | hz
          · exact .inr (List.mem_cons_self ..)
          · rcases ih (x :: a) b (by simp; omega) z hz with h | h
            · exact .inl h
            · exact .inr (List.mem_cons_of_mem _ h)
theorem mg_rise : ∀ (n : Nat) (a b : List IN), a.length + b.length = n → Rise a → Rise b → Rise (mg a b) := by
  intro n
  induction n with
  | zero => intro a b h; cases a <;> cases b <;> simp_all [mg]
  | succ n ih =>
    intro a b h ha hb
    cases a with
    | nil => rw [mg_nil]; exact hb
    | cons x a =>
      cases b with
      | nil => rw [mg_nil']; exact ha
      | cons y b =>
        simp only [List.length_cons] at h
        have ha' := List.pairwise_cons.1 ha
        have hb' := List.pairwise_cons.1 hb
        by_cases hx : x.1 ≤ y.1
        · rw [mg_le _ _ hx]
          refine List.pairwise_cons.2 ⟨fun z hz => ?_, ih a (y :: b) (by simp; omega) ha'.2 hb⟩
          rcases mg_mem _ _ _ rfl z hz with h | h
          · exact ha'.1 z h
          · rcases List.mem_cons.1 h with rfl | h
            · exact hx
            · have := hb'.1 z h; omega
        · rw [mg_gt _ _ hx]
          refine List.pairwise_cons.2 ⟨fun z hz => ?_, ih (x :: a) b (by simp; omega) ha hb'.2⟩
          rcases mg_mem _ _ _ rfl z hz with h | h
          · rcases List.mem_cons.1 h with rfl | h
            · omega
            · have := ha'.1 z h; omega
          · exact hb'.1 z h
theorem mg_assoc : ∀ (n : Nat) (a b c : List IN), a.length + b.length + c.length = n → mg (mg a b) c = mg a (mg b c) := by
  intro n
  induction n with
  | zero => intro a b c h; cases a <;> cases b <;> cases c <;> simp_all [mg]
  | succ n ih =>
    intro a b c h
    cases a with
    | nil => rw [mg_nil, mg_nil]
    | cons x a =>
      cases b with
      | nil => rw [mg_nil', mg_nil]
      | cons y b =>
        cases c with
        | nil => rw [mg_nil', mg_nil']
        | cons z c =>
          simp only [List.length_cons] at h
          by_cases h1 : x.1 ≤ y.1
          · by_cases h2 : y.1 ≤ z.1
            · rw [mg_le _ _ h1, mg_le _ _ h2, mg_le _ _ h1, mg_le _ _ (show x.1 ≤ z.1 by omega), ← mg_le b c h2, ih a (y :: b) (z :: c) (by simp; omega)]
            · rw [mg_gt _ _ h2, mg_le _ _ h1]
              by_cases h3 : x.1 ≤ z.1
              · rw [mg_le _ _ h3, mg_le _ _ h3, ih a (y :: b) (z :: c) (by simp; omega), mg_gt _ _ h2]
              · rw [mg_gt _ _ h3, mg_gt _ _ h3, ← mg_le _ _ h1, ih (x :: a) (y :: b) c (by simp; omega)]
          · by_cases h2 : y.1 ≤ z.1
            · rw [mg_gt _ _ h1, mg_le _ _ h2, mg_le _ _ h2, mg_gt _ _ h1, ih (x :: a) b (z :: c) (by simp; omega)]
            · rw [mg_gt _ _ h1, mg_gt _ _ h2, mg_gt _ _ h2, mg_gt _ _ (show ¬ x.1 ≤ z.1 by omega), ← mg_gt _ _ h1, ih (x :: a) (y :: b) c (by simp; omega)]

theorem d22_loop (k0 : Nat) (K : (List IN × Unit) × Unit → Option ((List IN × Unit) × Unit)) : ∀ n k (out a b : List IN), a.length + b.length = n → n < k → out.length + n ≤ 1000000 → dOk a → dOk b →
    loopN (d22_L4 k0 K) k ((out, ()), (a, (b, ()))) = K ((out ++ mg a b, ()), ()) := by
  intro n
  induction n with
  | zero =>
    intro k out a b hn hk ho ha hb
    obtain ⟨k, rfl⟩ : ∃ k', k = k' + 1 := ⟨k - 1, by omega⟩
    have h1 := List.length_eq_zero_iff.1 (show a.length = 0 by omega)
    have h2 := List.length_eq_zero_iff.1 (show b.length = 0 by omega)
    subst h1 h2
    have e : decide (IntKind.wrap .i64 ((([] : List IN).length : Int) + (([] : List IN).length : Int)) > 0) = false := by decide
    simp only [loopN, d22_L4, lt, e, Bool.false_eq_true, if_false, mg_nil, List.append_nil]
  | succ n ih =>
    intro k out a b hn hk ho ha hb
    obtain ⟨k, rfl⟩ : ∃ k', k = k' + 1 := ⟨k - 1, by omega⟩
    have e : decide (IntKind.wrap .i64 ((a.length : Int) + (b.length : Int)) > 0) = true := by
      rw [wrn (by omega)]; exact decide_eq_true (by omega)
    have f1 : appFits out.length 1 48 = true := fit1 (by omega) (by omega)
    have t1 : Int.toNat 1 = 1 := rfl
    have t0 : Int.toNat 0 = 0 := rfl
    have c1 : decide ((0 : Int) ≤ 1) = true := rfl
    have c0 : decide ((0 : Int) ≤ 0) = true := rfl
    cases a with
    | nil =>
      cases b with
      | nil => simp at hn
      | cons y b =>
        have hy := own_eq k0 y (hb y (List.mem_cons_self ..))
        have b1 : decide (1 ≤ (y :: b).length) = true := decide_eq_true (by simp)
        have b0 : decide ((0 : Int) < (((y :: b).length : Nat) : Int)) = true := decide_eq_true (by simp)
        have z : ((((y :: b).length : Nat) : Int) == 0) = false := by rw [beq_eq_false_iff_ne]; simp; omega
        have n0 : decide ((([] : List IN).length : Int) > 0) = false := rfl
        have b2 : decide ((y :: b).length ≤ (y :: b).length) = true := decide_eq_true (Nat.le_refl _)
        have := ih k (out ++ [y]) [] b (by simp at hn ⊢; omega) (by omega) (by simp; omega) ha (fun x hx => hb x (List.mem_cons_of_mem _ hx))
        simp only [loopN, d22_L4, lt, shr, e, if_true, z, n0, d22_K3, d22_K2, c0, c1, t0, t1, b0, b1, b2, List.getD_cons_zero, hy, Option.bind_some, List.length_singleton, f1, List.take_length, List.drop_one, List.tail_cons, Bool.false_eq_true, if_false, Bool.and_self, Bool.and_true, Bool.true_and, Bool.not_false, Bool.true_or, Bool.false_and, Bool.and_false, beq_self_eq_true, (show (false == true) = false from rfl), this]
        rw [mg_nil, mg_nil, List.append_assoc]; rfl
    | cons x a =>
      cases b with
      | nil =>
        have hx := own_eq k0 x (ha x (List.mem_cons_self ..))
        have b1 : decide (1 ≤ (x :: a).length) = true := decide_eq_true (by simp)
        have b0 : decide ((0 : Int) < (((x :: a).length : Nat) : Int)) = true := decide_eq_true (by simp)
        have z : ((([] : List IN).length : Int) == 0) = true := rfl
        have n0 : decide ((((x :: a).length : Nat) : Int) > 0) = true := b0
        have b2 : decide ((x :: a).length ≤ (x :: a).length) = true := decide_eq_true (Nat.le_refl _)
        have := ih k (out ++ [x]) a [] (by simp at hn ⊢; omega) (by omega) (by simp; omega) (fun x hx => ha x (List.mem_cons_of_mem _ hx)) hb
        simp only [loopN, d22_L4, lt, shr, e, if_true, z, n0, d22_K3, d22_K2, c0, c1, t0, t1, b0, b1, b2, List.getD_cons_zero, hx, Option.bind_some, List.length_singleton, f1, List.take_length, List.drop_one, List.tail_cons, Bool.false_eq_true, if_false, Bool.and_self, Bool.and_true, Bool.true_and, Bool.not_false, Bool.true_or, Bool.false_and, Bool.and_false, beq_self_eq_true, (show (true == false) = false from rfl), this]
        rw [mg_nil', mg_nil', List.append_assoc]; rfl
      | cons y b =>
        have hx := own_eq k0 x (ha x (List.mem_cons_self ..))
        have hy := own_eq k0 y (hb y (List.mem_cons_self ..))
        have a1 : decide (1 ≤ (x :: a).length) = true := decide_eq_true (by simp)
        have a0 : decide ((0 : Int) < (((x :: a).length : Nat) : Int)) = true := decide_eq_true (by simp)
        have a2 : decide ((x :: a).length ≤ (x :: a).length) = true := decide_eq_true (Nat.le_refl _)
        have b1 : decide (1 ≤ (y :: b).length) = true := decide_eq_true (by simp)
        have b0 : decide ((0 : Int) < (((y :: b).length : Nat) : Int)) = true := decide_eq_true (by simp)
        have b2 : decide ((y :: b).length ≤ (y :: b).length) = true := decide_eq_true (Nat.le_refl _)
        have z : ((((y :: b).length : Nat) : Int) == 0) = false := by rw [beq_eq_false_iff_ne]; simp; omega
        have n0 : decide ((((x :: a).length : Nat) : Int) > 0) = true := a0
        by_cases hxy : x.1 ≤ y.1
        · have := ih k (out ++ [x]) a (y :: b) (by simp at hn ⊢; omega) (by omega) (by simp; omega) (fun x hx => ha x (List.mem_cons_of_mem _ hx)) hb
          have hd : decide (x.1 ≤ y.1) = true := decide_eq_true hxy
          simp only [loopN, d22_L4, lt, shr, e, if_true, z, n0, hd, d22_K3, d22_K2, c0, c1, t0, t1, a0, a1, a2, b0, b1, b2, List.getD_cons_zero, hx, Option.bind_some, List.length_singleton, f1, List.take_length, List.drop_one, List.tail_cons, Bool.false_eq_true, if_false, Bool.and_self, Bool.and_true, Bool.true_and, Bool.not_false, Bool.not_true, Bool.false_or, Bool.true_or, Bool.false_and, Bool.and_false, beq_self_eq_true, this]
          rw [mg_le _ _ hxy, List.append_assoc]; rfl
        · have := ih k (out ++ [y]) (x :: a) b (by simp at hn ⊢; omega) (by omega) (by simp; omega) ha (fun x hx => hb x (List.mem_cons_of_mem _ hx))
          have hd : decide (x.1 ≤ y.1) = false := decide_eq_false hxy
          simp only [loopN, d22_L4, lt, shr, e, if_true, z, n0, hd, d22_K3, d22_K2, c0, c1, t0, t1, a0, a1, a2, b0, b1, b2, List.getD_cons_zero, hy, Option.bind_some, List.length_singleton, f1, List.take_length, List.drop_one, List.tail_cons, Bool.false_eq_true, if_false, Bool.and_self, Bool.and_true, Bool.true_and, Bool.not_false, Bool.not_true, Bool.false_or, Bool.true_or, Bool.false_and, Bool.and_false, beq_self_eq_true, this]
          rw [mg_gt _ _ hxy, List.append_assoc]; rfl
theorem merge_ok (k : Nat) (a b : List IN) (hk : a.length + b.length < k) (hl : a.length + b.length ≤ 1000000) (ha : dOk a) (hb : dOk b) : d22 k (a, (b, ())) = some ((mg a b, ()), ()) := by
  have := d22_loop k d22_K1 (a.length + b.length) k [] a b rfl hk (by simp; omega) ha hb
  simp only [d22, shr]
  rw [this]
  rfl

/-! ### rising -/
theorem d23_loop (K : Unit × Unit → Option ((Bool × Unit) × Unit)) (l : List IN) (hb : l.length < 4611686018427387904) (hr : Rise l) : ∀ n i k, i + n = l.length → n < k → 0 < i → loopN (d23_L2 K) k ((), ((i : Int), (l, ()))) = K ((), ()) := by
  intro n
  induction n with
  | zero =>
    intro i k hi hk h0
    obtain ⟨k, rfl⟩ : ∃ k', k = k' + 1 := ⟨k - 1, by omega⟩
    simp only [loopN, d23_L2, lt, dnlt (show l.length ≤ i by omega), Bool.false_eq_true, if_false]
  | succ n ih =>
    intro i k hi hk h0
    obtain ⟨k, rfl⟩ : ∃ k', k = k' + 1 := ⟨k - 1, by omega⟩
    have h1 : i < l.length := by omega
    have h2 : i - 1 < l.length := by omega
    have e1 : ∀ d, l.getD i d = l[i] := by simp [h1]
    have e2 : ∀ d, l.getD (i - 1) d = l[i - 1] := by simp [h2]
    have hle := (List.pairwise_iff_getElem.1 hr) (i - 1) i h2 h1 (by omega)
    have hd : decide (l[i].1 < l[i - 1].1) = false := decide_eq_false (by omega)
    simp only [loopN, d23_L2, lt, shr, dlt h1, dlt h2, dge0, Bool.and_self, if_true, Int.toNat_natCast, e1, e2, hd, wrp (show i < 4611686018427387904 by omega) h0, d23_K1, wr1 (show i < 4611686018427387904 by omega), Bool.false_eq_true, if_false]
    exact ih (i + 1) k (by omega) (by omega) (by omega)
theorem rising_ok (k : Nat) (l : List IN) (hb : l.length < 4611686018427387904) (hr : Rise l) (hk : l.length < k) : d23 k (l, ()) = some ((true, ()), ()) := by
  simp only [d23, shr]
  cases hl : l.length with
  | zero =>
    have := List.length_eq_zero_iff.1 hl
    subst this
    obtain ⟨k, rfl⟩ : ∃ k', k = k' + 1 := ⟨k - 1, by omega⟩
    rfl
  | succ n => exact d23_loop _ l hb hr n 1 k (by omega) (by omega) (by omega)

/-! ### Cut -/
def cutP (from_ below : Int) (x : IN) : Bool := decide (x.1 ≥ from_) && decide (x.1 < below)
theorem d25_loop (k0 : Nat) (K : (List IN × Unit) × Unit → Option ((List IN × Unit) × Unit)) (l : List IN) (f b : Int) (hb : l.length ≤ 1000000) (hd : dOk l) : ∀ n i k (out : List IN), i + n = l.length → n < k → out.length ≤ i →
    loopN (d25_L4 k0 K) k ((out, ()), ((i : Int), (b, (f, (l, ((l.length : Int), ())))))) = K ((out ++ (l.drop i).filter (cutP f b), ()), ()) := by
  intro n
  induction n with
  | zero =>
    intro i k out hi hk ho
    obtain ⟨k, rfl⟩ : ∃ k', k = k' + 1 := ⟨k - 1, by omega⟩
    simp only [loopN, d25_L4, lt, dnlt (show l.length ≤ i by omega), Bool.false_eq_true, if_false]
    rw [List.drop_eq_nil_of_le (by omega)]
    simp
  | succ n ih =>
    intro i k out hi hk ho
    obtain ⟨k, rfl⟩ : ∃ k', k = k' + 1 := ⟨k - 1, by omega⟩
    have h1 : i < l.length := by omega
    have e1 : ∀ d, l.getD i d = l[i] := by simp [h1]
    have f1 : appFits out.length 1 48 = true := fit1 (by omega) (by omega)
    have hx := own_eq k0 l[i] (hd _ (List.getElem_mem _))
    rw [List.drop_eq_getElem_cons h1, List.filter_cons]
    have hc : (if decide (l[i].1 ≥ f) = true then decide (l[i].1 < b) else false) = cutP f b l[i] := by
      unfold cutP; cases decide (l[i].1 ≥ f) <;> simp
    by_cases hp : cutP f b l[i] = true
    · have := ih (i + 1) k (out ++ [l[i]]) (by omega) (by omega) (by simp; omega)
      simp only [loopN, d25_L4, lt, shr, dlt h1, dge0, Bool.and_self, if_true, Int.toNat_natCast, e1, hc, hp, hx, Option.bind_some, List.length_singleton, f1, d25_K3, d25_K2, wr1 (show i < 4611686018427387904 by omega), this]
      rw [List.append_assoc]; rfl
    · have := ih (i + 1) k out (by omega) (by omega) (by omega)
      simp only [loopN, d25_L4, lt, shr, dlt h1, dge0, Bool.and_self, if_true, Int.toNat_natCast, e1, hc, hp, hx, Option.bind_some, List.length_singleton, f1, d25_K3, d25_K2, wr1 (show i < 4611686018427387904 by omega), this, Bool.false_eq_true, if_false]
theorem cut_ok (k : Nat) (l : List IN) (f b : Int) (hb : l.length ≤ 1000000) (hd : dOk l) (hk : l.length < k) : d25 k (l, (f, (b, ()))) = some ((l.filter (cutP f b), ()), ()) := by
  have := d25_loop k d25_K1 l f b hb hd l.length 0 k [] (by simp) hk (by simp)
  simp only [d25, shr]
  refine Eq.trans this ?_
  simp [d25_K1]
end Go.Proofs.YticemfakkgebhaaDoor.L
