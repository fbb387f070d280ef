import Derived.Test.YticemfakkgebhaaGreatDoorSt3
namespace Go.Proofs.YticemfakkgebhaaGreatDoor.L
open Go Go.Lift
set_option linter.unusedVariables false
set_option linter.unusedSimpArgs false
set_option maxRecDepth 100000

/-! ### what is written -/
def enc64 (x : Int) : List Int := bigL (IntKind.wrap .u64 x) 8
def enc32 (n : Nat) : List Int := bigL (IntKind.wrap .u64 (n : Int)) 4
def encL (l : List Int) : List Int := enc32 l.length ++ l.flatMap enc64
def encI (x : IN) : List Int := enc64 x.1 ++ (enc64 x.2.1 ++ (enc64 x.2.2.1 ++ encL x.2.2.2.1))
def encIs (l : List IN) : List Int := enc32 l.length ++ l.flatMap encI

/-! ### a reader that answers, and answers fault 0 only where it undid the writer -/
def Rd {α : Type} (enc : α → List Int) (P : α → Prop) (r : RS → Option ((α × Unit) × (RS × Unit))) : Prop :=
  ∀ b f, (∀ y ∈ b, isB y) → b.length ≤ 4194304 → ∃ a b' f', r (b, (f, ())) = some ((a, ()), ((b', (f', ())), ())) ∧ (∀ y ∈ b', isB y) ∧ b'.length ≤ b.length ∧ (f' = 0 → f = 0 ∧ P a ∧ b = enc a ++ b')
theorem wrap_wrap {v : Int} (h : 0 ≤ v ∧ v < 18446744073709551616) : IntKind.wrap .u64 (IntKind.wrap .i64 v) = v := by
  simp [IntKind.wrap, IntKind.signed, IntKind.bits]; omega
theorem i64_rd (k : Nat) (hk : 8 < k) : Rd enc64 (fun _ => True) (fun st => d42 k (st, ())) := by
  intro b f hB hL
  by_cases hf : f = 0
  · subst hf
    by_cases h : b.length < 8
    · have e := number_short k (by omega) b 8 h
      have e8 : ((8 : Nat) : Int) = 8 := rfl
      rw [e8] at e
      exact ⟨_, b, 20, by simp only [d42, e, Option.bind_some]; rfl, hB, Nat.le_refl _, fun h => by cases h⟩
    · have e := number_ok k hk b hB 8 (by omega) (by omega)
      have e8 : ((8 : Nat) : Int) = 8 := rfl
      rw [e8] at e
      refine ⟨_, b.drop 8, 0, by simp only [d42, e, Option.bind_some]; rfl, fun y hy => hB y (List.mem_of_mem_drop hy), by rw [List.length_drop]; omega, fun _ => ⟨rfl, trivial, ?_⟩⟩
      have hT : ∀ y ∈ b.take 8, isB y := fun y hy => hB y (List.mem_of_mem_take hy)
      have hlt : (b.take 8).length = 8 := by rw [List.length_take]; omega
      have r := val_range (b.take 8) 0 0 hT ⟨by omega, by simp⟩
      rw [hlt] at r
      have r' : 0 ≤ val (b.take 8) ∧ val (b.take 8) < 18446744073709551616 := by simpa using r
      rw [enc64, wrap_wrap r', big_val 8 _ hlt hT, List.take_append_drop]
  · exact ⟨_, b, f, by simp only [d42, number_bad k (by omega) b f 8 hf, Option.bind_some]; rfl, hB, Nat.le_refl _, fun h => absurd h hf⟩
/-- U32 at fault 0 -/
theorem u32_rd (k : Nat) (hk : 8 < k) (b : List Int) (hB : ∀ y ∈ b, isB y) :
    (∃ a, d19 k ((b, (0, ())), ()) = some ((a, ()), ((b, (20, ())), ()))) ∨ (∃ n : Nat, n < 4294967296 ∧ d19 k ((b, (0, ())), ()) = some (((n : Int), ()), ((b.drop 4, (0, ())), ())) ∧ b = enc32 n ++ b.drop 4) := by
  by_cases h : b.length < 4
  · have e := number_short k (by omega) b 4 h
    have e4 : ((4 : Nat) : Int) = 4 := rfl
    rw [e4] at e
    exact .inl ⟨_, by simp only [d19, e, Option.bind_some]; rfl⟩
  · have e := number_ok k hk b hB 4 (by omega) (by omega)
    have e8 : ((4 : Nat) : Int) = 4 := rfl
    rw [e8] at e
    have hT : ∀ y ∈ b.take 4, isB y := fun y hy => hB y (List.mem_of_mem_take hy)
    have hlt : (b.take 4).length = 4 := by rw [List.length_take]; omega
    have r := val_range (b.take 4) 0 0 hT ⟨by omega, by simp⟩
    rw [hlt] at r
    have r' : 0 ≤ val (b.take 4) ∧ val (b.take 4) < 4294967296 := by simpa using r
    have bv := big_val 4 _ hlt hT
    generalize val (b.take 4) = v at r' e bv
    obtain ⟨n, rfl⟩ : ∃ n : Nat, v = (n : Int) := ⟨v.toNat, by omega⟩
    have w1 : IntKind.wrap .i64 (n : Int) = (n : Int) := by simp [IntKind.wrap, IntKind.signed, IntKind.bits]; omega
    have w2 : IntKind.wrap .u64 (n : Int) = (n : Int) := by simp [IntKind.wrap, IntKind.signed, IntKind.bits]; omega
    refine .inr ⟨n, by omega, by simp only [d19, e, Option.bind_some, w1], ?_⟩
    rw [enc32, w2, bv, List.take_append_drop]

/-! ### GetList -/
theorem gl_loop (k0 : Nat) (hk0 : 8 < k0) : ∀ (m i k : Nat) (n : Nat) (acc b : List Int), i + m = n → n ≤ 4194304 → m < k → acc.length = i → (∀ y ∈ b, isB y) → b.length ≤ 4194304 →
    ∃ a b' f', loopN (d43_L3 k0 (d43_K1 k0)) k (((b, (0, ())), (acc, ())), ((i : Int), ((), ((n : Int), ())))) = some ((a, ()), ((b', (f', ())), ())) ∧ (∀ y ∈ b', isB y) ∧ b'.length ≤ b.length ∧
      (f' = 0 → ∃ l, a = acc ++ l ∧ l.length = m ∧ b = l.flatMap enc64 ++ b') := by
  intro m
  induction m with
  | zero =>
    intro i k n acc b hi hn hk ha hB hL
    obtain ⟨k, rfl⟩ : ∃ k', k = k' + 1 := ⟨k - 1, by omega⟩
    have e6 : decide (((acc.length : Nat) : Int) ≤ ((acc.length : Nat) : Int)) = true := decide_eq_true (by omega)
    refine ⟨acc, b, 0, ?_, hB, Nat.le_refl _, fun _ => ⟨[], by simp, rfl, by simp⟩⟩
    simp only [loopN, d43_L3, lt, dnlt (show n ≤ i by omega), Bool.false_eq_true, if_false, d43_K1, d55, dge0, e6, Bool.and_self, if_true, Int.toNat_natCast, List.take_length, Option.bind_some]
  | succ m ih =>
    intro i k n acc b hi hn hk ha hB hL
    obtain ⟨k, rfl⟩ : ∃ k', k = k' + 1 := ⟨k - 1, by omega⟩
    obtain ⟨x, b1, f1, e, hB1, hL1, hr⟩ := i64_rd k0 hk0 b 0 hB hL
    have fits : appFits acc.length (List.length [x]) 8 = true := by
      simp only [appFits, List.length_cons, List.length_nil]; simp; omega
    by_cases hf : f1 = 0
    · subst hf
      obtain ⟨-, -, hb⟩ := hr rfl
      obtain ⟨a, b', f', e', hB', hL', hr'⟩ := ih (i + 1) k n (acc ++ [x]) b1 (by omega) hn (by omega) (by simp [ha]) hB1 (by omega)
      refine ⟨a, b', f', ?_, hB', by omega, fun h => ?_⟩
      · rw [← e']
        simp only [loopN, d43_L3, lt, shr, dlt (show i < n by omega), if_true, e, Option.bind_some, fits, bne_self_eq_false, Bool.false_eq_true, if_false, d43_K2, wr1 (show i < 4611686018427387904 by omega)]
      · obtain ⟨l, rfl, hl, hb'⟩ := hr' h
        exact ⟨x :: l, by simp, by simp [hl], by rw [hb, hb']; simp⟩
    · have e1 : (f1 != 0) = true := by simpa using hf
      refine ⟨[], b1, f1, ?_, hB1, hL1, fun h => absurd h hf⟩
      simp only [loopN, d43_L3, lt, shr, dlt (show i < n by omega), if_true, e, Option.bind_some, fits, e1]
theorem gl_rd (k : Nat) (hk : 4200000 < k) : Rd encL (fun _ => True) (fun st => d43 k (st, (4194316, ((), ())))) := by
  intro b f hB hL
  by_cases hf : f = 0
  · subst hf
    have e0 : ((0 : Int) != 0) = false := rfl
    rcases u32_rd k (by omega) b hB with ⟨a, e⟩ | ⟨n, hn, e, hb⟩
    · have e20 : ((20 : Int) != 0) = true := rfl
      exact ⟨[], b, 20, by simp only [d43, lt, shr, e0, Bool.false_eq_true, if_false, e, Option.bind_some, e20, if_true], hB, Nat.le_refl _, fun h => by cases h⟩
    · by_cases h1 : 4194316 < n
      · have d1 : decide ((n : Int) > 4194316) = true := decide_eq_true (by omega)
        exact ⟨[], b, 1, by simp only [d43, lt, shr, e0, Bool.false_eq_true, if_false, e, Option.bind_some, d1, if_true], hB, Nat.le_refl _, fun h => by cases h⟩
      have d1 : decide ((n : Int) > 4194316) = false := decide_eq_false (by omega)
      by_cases h2 : (b.drop 4).length < n
      · have d2 : decide ((n : Int) > (((b.drop 4).length : Nat) : Int)) = true := decide_eq_true (by omega)
        exact ⟨[], b, 20, by simp only [d43, lt, shr, e0, Bool.false_eq_true, if_false, e, Option.bind_some, d1, d2, if_true], hB, Nat.le_refl _, fun h => by cases h⟩
      have d2 : decide ((n : Int) > (((b.drop 4).length : Nat) : Int)) = false := decide_eq_false (by omega)
      have hL4 : (b.drop 4).length ≤ b.length := by rw [List.length_drop]; omega
      obtain ⟨a, b', f', e', hB', hL', hr⟩ := gl_loop k (by omega) n 0 k n [] (b.drop 4) (by omega) (by omega) (by omega) rfl (fun y hy => hB y (List.mem_of_mem_drop hy)) (by omega)
      refine ⟨a, b', f', ?_, hB', by omega, fun h => ?_⟩
      · rw [← e']
        simp only [d43, lt, shr, e0, Bool.false_eq_true, if_false, e, Option.bind_some, d1, d2, d43_K4]
        rfl
      · obtain ⟨l, rfl, hl, hb'⟩ := hr h
        refine ⟨rfl, trivial, ?_⟩
        rw [hb, hb', encL, hl, List.append_assoc]
  · have e1 : (f != 0) = true := by simpa using hf
    exact ⟨[], b, f, by simp only [d43, lt, shr, e1, if_true], hB, Nat.le_refl _, fun h => absurd h hf⟩

/-! ### get -/
theorem get_rd (k : Nat) (hk : 4200000 < k) : Rd encI (fun _ => True) (fun st => d21 k (st, ())) := by
  intro b f hB hL
  obtain ⟨a1, b1, f1, e1, hB1, hL1, r1⟩ := i64_rd k (by omega) b f hB hL
  obtain ⟨a2, b2, f2, e2, hB2, hL2, r2⟩ := i64_rd k (by omega) b1 f1 hB1 (by omega)
  obtain ⟨a3, b3, f3, e3, hB3, hL3, r3⟩ := i64_rd k (by omega) b2 f2 hB2 (by omega)
  obtain ⟨a4, b4, f4, e4, hB4, hL4, r4⟩ := gl_rd k hk b3 f3 hB3 (by omega)
  refine ⟨(a1, (a2, (a3, (a4, ())))), b4, f4, ?_, hB4, by omega, fun h => ?_⟩
  · simp only [d21, e1, e2, e3, e4, Option.bind_some]
  · obtain ⟨h3, -, q4⟩ := r4 h
    obtain ⟨h2, -, q3⟩ := r3 h3
    obtain ⟨h1, -, q2⟩ := r2 h2
    obtain ⟨h0, -, q1⟩ := r1 h1
    refine ⟨h0, trivial, ?_⟩
    rw [q1, q2, q3, q4]
    simp [encI]
/-! ### GetList of inputs -/
theorem gi_loop (k0 : Nat) (hk0 : 4200000 < k0) : ∀ (m i k : Nat) (n : Nat) (acc : List IN) (b : List Int), i + m = n → n ≤ 4194304 → m < k → acc.length = i → (∀ y ∈ b, isB y) → b.length ≤ 4194304 →
    ∃ a b' f', loopN (d20_L3 k0 (d20_K1 k0)) k (((b, (0, ())), (acc, ())), ((i : Int), ((), ((n : Int), ())))) = some ((a, ()), ((b', (f', ())), ())) ∧ (∀ y ∈ b', isB y) ∧ b'.length ≤ b.length ∧
      (f' = 0 → ∃ l, a = acc ++ l ∧ l.length = m ∧ b = l.flatMap encI ++ b') := by
  intro m
  induction m with
  | zero =>
    intro i k n acc b hi hn hk ha hB hL
    obtain ⟨k, rfl⟩ : ∃ k', k = k' + 1 := ⟨k - 1, by omega⟩
    have e6 : decide (((acc.length : Nat) : Int) ≤ ((acc.length : Nat) : Int)) = true := decide_eq_true (by omega)
    refine ⟨acc, b, 0, ?_, hB, Nat.le_refl _, fun _ => ⟨[], by simp, rfl, by simp⟩⟩
    simp only [loopN, d20_L3, lt, dnlt (show n ≤ i by omega), Bool.false_eq_true, if_false, d20_K1, d41, dge0, e6, Bool.and_self, if_true, Int.toNat_natCast, List.take_length, Option.bind_some]
  | succ m ih =>
    intro i k n acc b hi hn hk ha hB hL
    obtain ⟨k, rfl⟩ : ∃ k', k = k' + 1 := ⟨k - 1, by omega⟩
    obtain ⟨x, b1, f1, e, hB1, hL1, hr⟩ := get_rd k0 hk0 b 0 hB hL
    have fits : appFits acc.length (List.length [x]) 48 = true := by
      simp only [appFits, List.length_cons, List.length_nil]; simp; omega
    by_cases hf : f1 = 0
    · subst hf
      obtain ⟨-, -, hb⟩ := hr rfl
      obtain ⟨a, b', f', e', hB', hL', hr'⟩ := ih (i + 1) k n (acc ++ [x]) b1 (by omega) hn (by omega) (by simp [ha]) hB1 (by omega)
      refine ⟨a, b', f', ?_, hB', by omega, fun h => ?_⟩
      · rw [← e']
        simp only [loopN, d20_L3, lt, shr, dlt (show i < n by omega), if_true, e, Option.bind_some, fits, bne_self_eq_false, Bool.false_eq_true, if_false, d20_K2, wr1 (show i < 4611686018427387904 by omega)]
      · obtain ⟨l, rfl, hl, hb'⟩ := hr' h
        exact ⟨x :: l, by simp, by simp [hl], by rw [hb, hb']; simp⟩
    · have e1 : (f1 != 0) = true := by simpa using hf
      refine ⟨[], b1, f1, ?_, hB1, hL1, fun h => absurd h hf⟩
      simp only [loopN, d20_L3, lt, shr, dlt (show i < n by omega), if_true, e, Option.bind_some, fits, e1]
theorem gi_rd (k : Nat) (hk : 4200000 < k) : Rd encIs (fun l => l.length ≤ 65536) (fun st => d20 k (st, (65536, ((), ())))) := by
  intro b f hB hL
  by_cases hf : f = 0
  · subst hf
    have e0 : ((0 : Int) != 0) = false := rfl
    rcases u32_rd k (by omega) b hB with ⟨a, e⟩ | ⟨n, hn, e, hb⟩
    · have e20 : ((20 : Int) != 0) = true := rfl
      exact ⟨[], b, 20, by simp only [d20, lt, shr, e0, Bool.false_eq_true, if_false, e, Option.bind_some, e20, if_true], hB, Nat.le_refl _, fun h => by cases h⟩
    · by_cases h1 : 65536 < n
      · have d1 : decide ((n : Int) > 65536) = true := decide_eq_true (by omega)
        exact ⟨[], b, 1, by simp only [d20, lt, shr, e0, Bool.false_eq_true, if_false, e, Option.bind_some, d1, if_true], hB, Nat.le_refl _, fun h => by cases h⟩
      have d1 : decide ((n : Int) > 65536) = false := decide_eq_false (by omega)
      by_cases h2 : (b.drop 4).length < n
      · have d2 : decide ((n : Int) > (((b.drop 4).length : Nat) : Int)) = true := decide_eq_true (by omega)
        exact ⟨[], b, 20, by simp only [d20, lt, shr, e0, Bool.false_eq_true, if_false, e, Option.bind_some, d1, d2, if_true], hB, Nat.le_refl _, fun h => by cases h⟩
      have d2 : decide ((n : Int) > (((b.drop 4).length : Nat) : Int)) = false := decide_eq_false (by omega)
      have hL4 : (b.drop 4).length ≤ b.length := by rw [List.length_drop]; omega
      obtain ⟨a, b', f', e', hB', hL', hr⟩ := gi_loop k hk n 0 k n [] (b.drop 4) (by omega) (by omega) (by omega) rfl (fun y hy => hB y (List.mem_of_mem_drop hy)) (by omega)
      refine ⟨a, b', f', ?_, hB', by omega, fun h => ?_⟩
      · rw [← e']
        simp only [d20, lt, shr, e0, Bool.false_eq_true, if_false, e, Option.bind_some, d1, d2, d20_K4]
        rfl
      · obtain ⟨l, rfl, hl, hb'⟩ := hr h
        refine ⟨rfl, by omega, ?_⟩
        rw [hb, hb', encIs, hl, List.append_assoc]
  · have e1 : (f != 0) = true := by simpa using hf
    exact ⟨[], b, f, by simp only [d20, lt, shr, e1, if_true], hB, Nat.le_refl _, fun h => absurd h hf⟩
end Go.Proofs.YticemfakkgebhaaGreatDoor.L
