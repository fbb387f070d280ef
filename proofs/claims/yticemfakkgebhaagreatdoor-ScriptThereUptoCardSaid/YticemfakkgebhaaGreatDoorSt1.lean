import Derived.Test.YticemfakkgebhaaGreatDoorStD
import Derived.Test.YticemfakkgebhaaGreatDoorStM
namespace Go.Proofs.YticemfakkgebhaaGreatDoor.L
open Go Go.Lift
set_option linter.unusedVariables false
set_option linter.unusedSimpArgs false
set_option maxRecDepth 100000

/-! ### big: the bytes of a number, the highest first -/
def bigB (x : Int) (n i : Nat) : Int := IntKind.wrap .u8 (Int.fdiv x (2 ^ (8 * (n - 1 - i))))
def bigL (x : Int) (n : Nat) : List Int := (List.range n).map (bigB x n)
theorem wsub {a b : Nat} (h : b ≤ a) (ha : a < 4611686018427387904) : IntKind.wrap .i64 ((a : Int) - (b : Int)) = ((a - b : Nat) : Int) := by
  simp [IntKind.wrap, IntKind.signed, IntKind.bits]; omega
theorem d71_loop (K : (List Int × Unit) × Unit → Option ((List Int × Unit) × Unit)) (x : Int) {n : Nat} (hn : n ≤ 8) : ∀ m i k (l : List Int), i + m = n → m < k → l.length = n → (∀ a, a < i → l.getD a 0 = bigB x n a) →
    loopN (d26_L3 K) k ((l, ()), ((i : Int), ((n : Int), (x, ((n : Int), ()))))) = K ((bigL x n, ()), ()) := by
  intro m
  induction m with
  | zero =>
    intro i k l hi hk hl ha
    obtain ⟨k, rfl⟩ : ∃ k', k = k' + 1 := ⟨k - 1, by omega⟩
    have : l = bigL x n := by
      apply List.ext_getElem
      · simp [bigL, hl]
      · intro a h1 h2
        have := ha a (by omega)
        rw [List.getD_eq_getElem?_getD, List.getElem?_eq_getElem h1] at this
        simp only [Option.getD_some] at this
        rw [this]
        simp [bigL]
    simp only [loopN, d26_L3, lt, dnlt (show n ≤ i by omega), Bool.false_eq_true, if_false, this]
  | succ m ih =>
    intro i k l hi hk hl ha
    obtain ⟨k, rfl⟩ : ∃ k', k = k' + 1 := ⟨k - 1, by omega⟩
    have h1 : i < n := by omega
    have e1 : IntKind.wrap .i64 ((n : Int) - 1) = ((n - 1 : Nat) : Int) := wrp (by omega) (by omega)
    have e2 : IntKind.wrap .i64 (((n - 1 : Nat) : Int) - (i : Int)) = ((n - 1 - i : Nat) : Int) := wsub (by omega) (by omega)
    have e3 : IntKind.wrap .i64 ((8 : Int) * ((n - 1 - i : Nat) : Int)) = ((8 * (n - 1 - i) : Nat) : Int) := by
      simp [IntKind.wrap, IntKind.signed, IntKind.bits]; omega
    have e4 : decide (((8 * (n - 1 - i) : Nat) : Int) < 0) = false := decide_eq_false (by omega)
    have e5 : min (8 * (n - 1 - i)) (IntKind.bits .u64) = 8 * (n - 1 - i) := by simp [IntKind.bits]; omega
    have := ih (i + 1) k (l.set i (bigB x n i)) (by omega) (by omega) (by simp [hl]) (fun a h => by
      rw [List.getD_eq_getElem?_getD, List.getElem?_set]
      by_cases e : i = a
      · subst e; simp [hl, h1]
      · rw [if_neg e, ← List.getD_eq_getElem?_getD]
        exact ha a (by omega))
    refine Eq.trans ?_ this
    have d1 : decide (i < n) = true := decide_eq_true h1
    simp only [loopN, d26_L3, lt, shr, dlt h1, d1, dge0, hl, e1, e2, e3, e4, Bool.not_false, Bool.and_self, Bool.and_true, if_true, Int.toNat_natCast, e5, d26_K2, wr1 (show i < 4611686018427387904 by omega), bigB]
theorem big_eq (x : Int) {n : Nat} (hn : n ≤ 8) (k : Nat) (hk : 8 < k) : d26 k (x, ((n : Int), ())) = some ((bigL x n, ()), ()) := by
  have := d71_loop d26_K1 x hn n 0 k (List.replicate n 0) (by omega) (by omega) (by simp) (by intro a h; omega)
  have e1 : decide ((n : Int) ≤ (n : Int)) = true := decide_eq_true (by omega)
  have e2 : decide ((((1 : Nat) : Nat) : Int) * (n : Int) ≤ (281474976710656 : Int)) = true := decide_eq_true (by omega)
  have e3 : decide ((n : Int) ≤ (9223372036854775807 : Int)) = true := decide_eq_true (by omega)
  simp only [d26, lt, shr, dge0, e1, e2, e3, Bool.and_self, if_true, Int.toNat_natCast, List.length_replicate]
  exact this

/-! ### Sum answers -/
theorem sum_in (K : Unit × Int × List Int × Int × Int × Unit → Option ((Int × Unit) × Unit)) (l : List Int) (A B : Int) : ∀ (m i k : Nat) (s : Int), i + m = 8 → m < k →
    ∃ s', loopN (d30_L5 K) k ((), ((i : Int), (s, (l, (A, (B, ())))))) = K ((), (s', (l, (A, (B, ()))))) := by
  intro m
  induction m with
  | zero =>
    intro i k s hi hk
    obtain ⟨k, rfl⟩ : ∃ k', k = k' + 1 := ⟨k - 1, by omega⟩
    have e : decide ((i : Int) < 8) = false := decide_eq_false (by omega)
    exact ⟨s, by simp only [loopN, d30_L5, lt, e, Bool.false_eq_true, if_false]⟩
  | succ m ih =>
    intro i k s hi hk
    obtain ⟨k, rfl⟩ : ∃ k', k = k' + 1 := ⟨k - 1, by omega⟩
    have e : decide ((i : Int) < 8) = true := decide_eq_true (by omega)
    have e1 : decide ((1 : Int) < 0) = false := rfl
    have key : ∃ s1, d30_L5 K (loopN (d30_L5 K) k) ((), ((i : Int), (s, (l, (A, (B, ())))))) = loopN (d30_L5 K) k ((), (((i + 1 : Nat) : Int), (s1, (l, (A, (B, ())))))) := ⟨_, by
      simp only [d30_L5, lt, shr, e, e1, Bool.not_false, if_true, d30_K4, wr1 (show i < 4611686018427387904 by omega)]
      rfl⟩
    obtain ⟨s1, h1⟩ := key
    obtain ⟨s', hs⟩ := ih (i + 1) k s1 (by omega) (by omega)
    exact ⟨s', by simp only [loopN]; rw [h1, hs]⟩
theorem sum_loop (k0 : Nat) (hk0 : 8 < k0) (l : List Int) (hl : l.length < 4611686018427387904) (K : Unit × Int × Unit → Option ((Int × Unit) × Unit)) : ∀ (m i k : Nat) (s : Int), i + m = l.length → m < k →
    ∃ s', loopN (d30_L6 k0 K) k ((), ((i : Int), (s, (l, ((l.length : Int), ()))))) = K ((), (s', ())) := by
  intro m
  induction m with
  | zero =>
    intro i k s hi hk
    obtain ⟨k, rfl⟩ : ∃ k', k = k' + 1 := ⟨k - 1, by omega⟩
    exact ⟨s, by simp only [loopN, d30_L6, lt, dnlt (show l.length ≤ i by omega), Bool.false_eq_true, if_false]⟩
  | succ m ih =>
    intro i k s hi hk
    obtain ⟨k, rfl⟩ : ∃ k', k = k' + 1 := ⟨k - 1, by omega⟩
    have h1 : i < l.length := by omega
    have key : ∃ s1, d30_L6 k0 K (loopN (d30_L6 k0 K) k) ((), ((i : Int), (s, (l, ((l.length : Int), ()))))) = loopN (d30_L6 k0 K) k ((), (((i + 1 : Nat) : Int), (s1, (l, ((l.length : Int), ()))))) := by
      have hin := fun s0 => sum_in (d30_K3 (d30_K2 (loopN (d30_L6 k0 K) k))) l (l.length : Int) (i : Int) 8 0 k0 s0 rfl (by omega)
      have hin2 : ∀ s0, ∃ s1, loopN (d30_L5 (d30_K3 (d30_K2 (loopN (d30_L6 k0 K) k)))) k0 ((), ((0 : Int), (s0, (l, ((l.length : Int), ((i : Int), ())))))) = loopN (d30_L6 k0 K) k ((), (((i + 1 : Nat) : Int), (s1, (l, ((l.length : Int), ()))))) := fun s0 => by
        obtain ⟨s1, h⟩ := hin s0
        refine ⟨s1, h.trans ?_⟩
        simp only [d30_K3, d30_K2, wr1 (show i < 4611686018427387904 by omega)]
      simp only [d30_L6, lt, shr, dlt h1, dge0, Bool.and_self, if_true, Int.toNat_natCast]
      exact hin2 _
    obtain ⟨s1, h2⟩ := key
    obtain ⟨s', hs⟩ := ih (i + 1) k s1 (by omega) (by omega)
    exact ⟨s', by simp only [loopN]; rw [h2, hs]⟩
theorem sum_ok (l : List Int) (k : Nat) (h0 : 8 < k) (hk : l.length < k) (hl : l.length < 4611686018427387904) : ∃ s, d30 k (l, ()) = some ((s, ()), ()) := by
  obtain ⟨s, h⟩ := sum_loop k h0 l hl d30_K1 l.length 0 k 4294967295 (by omega) hk
  refine ⟨IntKind.wrap .u32 (((BitVec.ofInt (IntKind.bits .u32) (IntKind.max .u32)) ^^^ (BitVec.ofInt (IntKind.bits .u32) s)).toNat : Int), ?_⟩
  simp only [d30, shr]
  exact h
/-! ### Seal answers -/
def isB (x : Int) : Prop := 0 ≤ x ∧ x < 256
theorem wrap8 (x : Int) : isB (IntKind.wrap .u8 x) := by
  simp [isB, IntKind.wrap, IntKind.signed, IntKind.bits]; omega
theorem bigL_B (x : Int) (n : Nat) : ∀ y ∈ bigL x n, isB y := by
  intro y hy
  obtain ⟨i, _, rfl⟩ := List.mem_map.1 hy
  exact wrap8 _
theorem bigL_len (x : Int) (n : Nat) : (bigL x n).length = n := by simp [bigL]
theorem seal_ok (k : Nat) (hk : 4200000 < k) (body : List Int) (hb : body.length ≤ 4194304) (hB : ∀ y ∈ body, isB y) : ∃ s, (∀ y ∈ s, isB y) ∧ d13 k (3, (body, ())) = some ((s, (0, ())), ()) := by
  have hl7 := bigL_len (IntKind.wrap .u64 ((body.length : Nat) : Int)) 4
  obtain ⟨c, hc⟩ := sum_ok ([66, 75, 3, 1] ++ bigL (IntKind.wrap .u64 ((body.length : Nat) : Int)) 4 ++ body) k (by omega) (by simp [hl7]; omega) (by simp [hl7]; omega)
  have e0 : decide (((body.length : Nat) : Int) > 4194304) = false := decide_eq_false (by omega)
  have e1 := big_eq (IntKind.wrap .u64 ((body.length : Nat) : Int)) (n := 4) (by omega) k (by omega)
  have f1 : appFits 4 4 1 = true := rfl
  have f2 : appFits 8 body.length 1 = true := by simp [appFits]; omega
  have f3 : appFits (8 + body.length) 4 1 = true := by simp [appFits]; omega
  have g1 : decide ((8 : Int) < 0) = false := rfl
  have g2 : decide ((16 : Int) < 0) = false := rfl
  have g3 : decide ((24 : Int) < 0) = false := rfl
  have l1 : ([66, 75, 3, 1] ++ bigL (IntKind.wrap .u64 ((body.length : Nat) : Int)) 4 : List Int).length = 8 := by simp [hl7]
  have l2 : ([66, 75, 3, 1] ++ bigL (IntKind.wrap .u64 ((body.length : Nat) : Int)) 4 ++ body : List Int).length = 8 + body.length := by rw [List.length_append, l1]
  have e1' : d26 k (IntKind.wrap .u64 ((body.length : Nat) : Int), ((4 : Int), ())) = some ((bigL (IntKind.wrap .u64 ((body.length : Nat) : Int)) 4, ()), ()) := e1
  refine ⟨_, ?_, by
    simp only [d13, lt, e0, Bool.false_eq_true, if_false, e1', Option.bind_some, List.length_cons, List.length_nil, Nat.zero_add, hl7, f1, if_true, l1, f2, hc, g1, g2, g3, Bool.not_false, l2, f3]
    rfl⟩
  intro y hy
  rcases List.mem_append.1 hy with hy | hy
  · rcases List.mem_append.1 hy with hy | hy
    · rcases List.mem_append.1 hy with hy | hy
      · simp only [List.mem_cons, List.mem_nil_iff, or_false] at hy
        rcases hy with rfl | rfl | rfl | rfl <;> exact ⟨by decide, by decide⟩
      · exact bigL_B _ _ y hy
    · exact hB y hy
  · simp only [List.mem_cons, List.mem_nil_iff, or_false] at hy
    rcases hy with rfl | rfl | rfl | rfl <;> exact wrap8 _
end Go.Proofs.YticemfakkgebhaaGreatDoor.L
