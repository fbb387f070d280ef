import Derived.Test.YtledeaknnihlmaaFaM4
namespace Go.Proofs.Ytledeaknnihlmaa.L
open Go Go.Lift
set_option linter.unusedVariables false
set_option linter.unusedSimpArgs false
set_option maxRecDepth 100000

/-- Two lists are alike, element by element. -/
def eqs {α : Type} (f : α → α → Bool) : List α → List α → Bool
  | [], [] => true
  | a :: l, b :: m => f a b && eqs f l m
  | _, _ => false
theorem eqs_ne {α : Type} {f : α → α → Bool} : ∀ {l m : List α}, l.length ≠ m.length → eqs f l m = false
  | [], [], h => absurd rfl h
  | [], _ :: _, _ => rfl
  | _ :: _, [], _ => rfl
  | a :: l, b :: m, h => by
    simp only [eqs, eqs_ne (f := f) (l := l) (m := m) (fun e => h (by simp [e])), Bool.and_false]
theorem eqs_len {α : Type} {f : α → α → Bool} {l m : List α} (h : eqs f l m = true) : l.length = m.length := Classical.byContradiction fun e => by rw [eqs_ne e] at h; cases h
theorem eqs_drop {α : Type} {f : α → α → Bool} {l m : List α} {i : Nat} (h1 : i < l.length) (h2 : i < m.length) : eqs f (l.drop i) (m.drop i) = (f l[i] m[i] && eqs f (l.drop (i + 1)) (m.drop (i + 1))) := by
  rw [drop_cons h1, drop_cons h2]; rfl
theorem eqs_end {α : Type} {f : α → α → Bool} {l m : List α} {i : Nat} (h1 : l.length ≤ i) (h2 : m.length ≤ i) : eqs f (l.drop i) (m.drop i) = true := by
  rw [List.drop_of_length_le h1, List.drop_of_length_le h2]; rfl
theorem eqs_refl {α : Type} {f : α → α → Bool} (hf : ∀ a, f a a = true) : ∀ l, eqs f l l = true
  | [] => rfl
  | a :: l => by simp only [eqs, hf a, eqs_refl hf l, Bool.and_self]
theorem nel {n m : Nat} (h : n ≠ m) : (((n : Nat) : Int) != ((m : Nat) : Int)) = true := by
  rw [bne_iff_ne]; omega
theorem eql' {n m : Nat} (h : n = m) : (((n : Nat) : Int) != ((m : Nat) : Int)) = false := by
  subst h; simp
theorem iteA (b c : Bool) : (if b = true then c else false) = (b && c) := by cases b <;> rfl
theorem iteO (b c : Bool) : (if b = true then true else c) = (b || c) := by cases b <;> rfl
theorem guA (x c : Bool) : (if ((x == true) && true) = true then (some ((c, ()), ()) : Option ((Bool × Unit) × Unit)) else some ((false, ()), ())) = some ((x && c, ()), ()) := by cases x <;> rfl
theorem guO (x c : Bool) : (if ((x == false) && true) = true then (some ((c, ()), ()) : Option ((Bool × Unit) × Unit)) else some ((false, ()), ())) = some ((!x && c, ()), ()) := by cases x <;> rfl
theorem gu0 (x : Bool) : (if x = true then (some ((false, ()), ()) : Option ((Bool × Unit) × Unit)) else some ((true, ()), ())) = some ((!x, ()), ()) := by cases x <;> rfl
theorem bneN {α : Type} [BEq α] (a b : α) : (a != b) = !(a == b) := rfl

def eI (x y : Int) : Bool := x == y
def eB (x y : Bool) : Bool := x == y
def eIS (x y : IS) : Bool := (x.1 == y.1) && ((x.2.1 == y.2.1) && ((x.2.2.1 == y.2.2.1) && ((x.2.2.2.1 == y.2.2.2.1) && ((x.2.2.2.2.1 == y.2.2.2.2.1) && true))))
def ePC (x y : PC) : Bool := (x.1 == y.1) && ((x.2.1 == y.2.1) && ((x.2.2.1 == y.2.2.1) && ((x.2.2.2.1 == y.2.2.2.1) && ((x.2.2.2.2.1 == y.2.2.2.2.1) && ((x.2.2.2.2.2.1 == y.2.2.2.2.2.1) && true)))))
def eI2 (x y : I2) : Bool := (x.1 == y.1) && ((x.2.1 == y.2.1) && true)
def ePO (x y : PO) : Bool := (x.1 == y.1) && ((x.2.1 == y.2.1) && ((x.2.2.1 == y.2.2.1) && ((x.2.2.2.1 == y.2.2.2.1) && ((x.2.2.2.2.1 == y.2.2.2.2.1) && ((x.2.2.2.2.2.1 == y.2.2.2.2.2.1) && true)))))
def eSV (x y : SV) : Bool := (x.1 == y.1) && ((x.2.1 == y.2.1) && ((x.2.2.1 == y.2.2.1) && ((x.2.2.2.1 == y.2.2.2.1) && true)))

theorem d22_loop (l m : List Int) (hlm : l.length = m.length) (hb : l.length < 4611686018427387904) : ∀ r i k, i + r = l.length → r < k →
    loopN (d22_L2 (fun _ => some ((true, ()), ()))) k ((), ((i : Int), (m, (l, (((l.length : Nat) : Int), ()))))) = some ((eqs eI (l.drop i) (m.drop i), ()), ()) := by
  intro r
  induction r with
  | zero =>
    intro i k hi hk
    obtain ⟨k, rfl⟩ : ∃ k', k = k' + 1 := ⟨k - 1, by omega⟩
    rw [eqs_end (by omega) (by omega)]
    simp only [loopN, d22_L2, lt, dnlt (show l.length ≤ i by omega), Bool.false_eq_true, if_false]
  | succ r ih =>
    intro i k hi hk
    obtain ⟨k, rfl⟩ : ∃ k', k = k' + 1 := ⟨k - 1, by omega⟩
    have h1 : i < l.length := by omega
    have h2 : i < m.length := by omega
    have hih := ih (i + 1) k (by omega) (by omega)
    rw [eqs_drop h1 h2]
    cases hv : eI l[i] m[i] with
    | true =>
      unfold eI at hv
      simp only [loopN, d22_L2, lt, shr, dlt h1, dlt h2, dge0, Bool.and_self, if_true, Int.toNat_natCast, getD_mem h1, getD_mem h2, bneN, hv, Bool.not_true, Bool.true_and, Bool.false_eq_true, if_false, d22_K1, wr1 (show i < 4611686018427387904 by omega)]
      exact hih
    | false =>
      unfold eI at hv
      simp only [loopN, d22_L2, lt, shr, dlt h1, dlt h2, dge0, Bool.and_self, if_true, Int.toNat_natCast, getD_mem h1, getD_mem h2, bneN, hv, Bool.not_false, Bool.false_and]
theorem d22_val (k : Nat) (l m : List Int) (hk : l.length < k) (hb : l.length < 4611686018427387904) : d22 k (l, (m, ())) = some ((eqs eI l m, ()), ()) := by
  by_cases h : l.length = m.length
  · have := d22_loop l m h hb l.length 0 k (by omega) hk
    simp only [d22, lt, shr, eql' h, Bool.false_eq_true, if_false]
    exact this
  · rw [eqs_ne h]
    simp only [d22, lt, shr, nel h, if_true]

theorem d26_loop (l m : List Int) (hlm : l.length = m.length) (hb : l.length < 4611686018427387904) : ∀ r i k, i + r = l.length → r < k →
    loopN (d26_L2 (fun _ => some ((true, ()), ()))) k ((), ((i : Int), (m, (l, (((l.length : Nat) : Int), ()))))) = some ((eqs eI (l.drop i) (m.drop i), ()), ()) := by
  intro r
  induction r with
  | zero =>
    intro i k hi hk
    obtain ⟨k, rfl⟩ : ∃ k', k = k' + 1 := ⟨k - 1, by omega⟩
    rw [eqs_end (by omega) (by omega)]
    simp only [loopN, d26_L2, lt, dnlt (show l.length ≤ i by omega), Bool.false_eq_true, if_false]
  | succ r ih =>
    intro i k hi hk
    obtain ⟨k, rfl⟩ : ∃ k', k = k' + 1 := ⟨k - 1, by omega⟩
    have h1 : i < l.length := by omega
    have h2 : i < m.length := by omega
    have hih := ih (i + 1) k (by omega) (by omega)
    rw [eqs_drop h1 h2]
    cases hv : eI l[i] m[i] with
    | true =>
      unfold eI at hv
      simp only [loopN, d26_L2, lt, shr, dlt h1, dlt h2, dge0, Bool.and_self, if_true, Int.toNat_natCast, getD_mem h1, getD_mem h2, bneN, hv, Bool.not_true, Bool.true_and, Bool.false_eq_true, if_false, d26_K1, wr1 (show i < 4611686018427387904 by omega)]
      exact hih
    | false =>
      unfold eI at hv
      simp only [loopN, d26_L2, lt, shr, dlt h1, dlt h2, dge0, Bool.and_self, if_true, Int.toNat_natCast, getD_mem h1, getD_mem h2, bneN, hv, Bool.not_false, Bool.false_and]
theorem d26_val (k : Nat) (l m : List Int) (hk : l.length < k) (hb : l.length < 4611686018427387904) : d26 k (l, (m, ())) = some ((eqs eI l m, ()), ()) := by
  by_cases h : l.length = m.length
  · have := d26_loop l m h hb l.length 0 k (by omega) hk
    simp only [d26, lt, shr, eql' h, Bool.false_eq_true, if_false]
    exact this
  · rw [eqs_ne h]
    simp only [d26, lt, shr, nel h, if_true]

theorem d38_loop (l m : List IS) (hlm : l.length = m.length) (hb : l.length < 4611686018427387904) : ∀ r i k, i + r = l.length → r < k →
    loopN (d38_L2 (fun _ => some ((true, ()), ()))) k ((), ((i : Int), (m, (l, (((l.length : Nat) : Int), ()))))) = some ((eqs eIS (l.drop i) (m.drop i), ()), ()) := by
  intro r
  induction r with
  | zero =>
    intro i k hi hk
    obtain ⟨k, rfl⟩ : ∃ k', k = k' + 1 := ⟨k - 1, by omega⟩
    rw [eqs_end (by omega) (by omega)]
    simp only [loopN, d38_L2, lt, dnlt (show l.length ≤ i by omega), Bool.false_eq_true, if_false]
  | succ r ih =>
    intro i k hi hk
    obtain ⟨k, rfl⟩ : ∃ k', k = k' + 1 := ⟨k - 1, by omega⟩
    have h1 : i < l.length := by omega
    have h2 : i < m.length := by omega
    have hih := ih (i + 1) k (by omega) (by omega)
    rw [eqs_drop h1 h2]
    cases hv : eIS l[i] m[i] with
    | true =>
      unfold eIS at hv
      simp only [loopN, d38_L2, lt, shr, dlt h1, dlt h2, dge0, Bool.and_self, if_true, Int.toNat_natCast, getD_mem h1, getD_mem h2, bneN, hv, Bool.not_true, Bool.true_and, Bool.false_eq_true, if_false, d38_K1, wr1 (show i < 4611686018427387904 by omega)]
      exact hih
    | false =>
      unfold eIS at hv
      simp only [loopN, d38_L2, lt, shr, dlt h1, dlt h2, dge0, Bool.and_self, if_true, Int.toNat_natCast, getD_mem h1, getD_mem h2, bneN, hv, Bool.not_false, Bool.false_and]
theorem d38_val (k : Nat) (l m : List IS) (hk : l.length < k) (hb : l.length < 4611686018427387904) : d38 k (l, (m, ())) = some ((eqs eIS l m, ()), ()) := by
  by_cases h : l.length = m.length
  · have := d38_loop l m h hb l.length 0 k (by omega) hk
    simp only [d38, lt, shr, eql' h, Bool.false_eq_true, if_false]
    exact this
  · rw [eqs_ne h]
    simp only [d38, lt, shr, nel h, if_true]

theorem d39_loop (l m : List PC) (hlm : l.length = m.length) (hb : l.length < 4611686018427387904) : ∀ r i k, i + r = l.length → r < k →
    loopN (d39_L2 (fun _ => some ((true, ()), ()))) k ((), ((i : Int), (m, (l, (((l.length : Nat) : Int), ()))))) = some ((eqs ePC (l.drop i) (m.drop i), ()), ()) := by
  intro r
  induction r with
  | zero =>
    intro i k hi hk
    obtain ⟨k, rfl⟩ : ∃ k', k = k' + 1 := ⟨k - 1, by omega⟩
    rw [eqs_end (by omega) (by omega)]
    simp only [loopN, d39_L2, lt, dnlt (show l.length ≤ i by omega), Bool.false_eq_true, if_false]
  | succ r ih =>
    intro i k hi hk
    obtain ⟨k, rfl⟩ : ∃ k', k = k' + 1 := ⟨k - 1, by omega⟩
    have h1 : i < l.length := by omega
    have h2 : i < m.length := by omega
    have hih := ih (i + 1) k (by omega) (by omega)
    rw [eqs_drop h1 h2]
    cases hv : ePC l[i] m[i] with
    | true =>
      unfold ePC at hv
      simp only [loopN, d39_L2, lt, shr, dlt h1, dlt h2, dge0, Bool.and_self, if_true, Int.toNat_natCast, getD_mem h1, getD_mem h2, bneN, hv, Bool.not_true, Bool.true_and, Bool.false_eq_true, if_false, d39_K1, wr1 (show i < 4611686018427387904 by omega)]
      exact hih
    | false =>
      unfold ePC at hv
      simp only [loopN, d39_L2, lt, shr, dlt h1, dlt h2, dge0, Bool.and_self, if_true, Int.toNat_natCast, getD_mem h1, getD_mem h2, bneN, hv, Bool.not_false, Bool.false_and]
theorem d39_val (k : Nat) (l m : List PC) (hk : l.length < k) (hb : l.length < 4611686018427387904) : d39 k (l, (m, ())) = some ((eqs ePC l m, ()), ()) := by
  by_cases h : l.length = m.length
  · have := d39_loop l m h hb l.length 0 k (by omega) hk
    simp only [d39, lt, shr, eql' h, Bool.false_eq_true, if_false]
    exact this
  · rw [eqs_ne h]
    simp only [d39, lt, shr, nel h, if_true]

theorem d40_loop (l m : List I2) (hlm : l.length = m.length) (hb : l.length < 4611686018427387904) : ∀ r i k, i + r = l.length → r < k →
    loopN (d40_L2 (fun _ => some ((true, ()), ()))) k ((), ((i : Int), (m, (l, (((l.length : Nat) : Int), ()))))) = some ((eqs eI2 (l.drop i) (m.drop i), ()), ()) := by
  intro r
  induction r with
  | zero =>
    intro i k hi hk
    obtain ⟨k, rfl⟩ : ∃ k', k = k' + 1 := ⟨k - 1, by omega⟩
    rw [eqs_end (by omega) (by omega)]
    simp only [loopN, d40_L2, lt, dnlt (show l.length ≤ i by omega), Bool.false_eq_true, if_false]
  | succ r ih =>
    intro i k hi hk
    obtain ⟨k, rfl⟩ : ∃ k', k = k' + 1 := ⟨k - 1, by omega⟩
    have h1 : i < l.length := by omega
    have h2 : i < m.length := by omega
    have hih := ih (i + 1) k (by omega) (by omega)
    rw [eqs_drop h1 h2]
    cases hv : eI2 l[i] m[i] with
    | true =>
      unfold eI2 at hv
      simp only [loopN, d40_L2, lt, shr, dlt h1, dlt h2, dge0, Bool.and_self, if_true, Int.toNat_natCast, getD_mem h1, getD_mem h2, bneN, hv, Bool.not_true, Bool.true_and, Bool.false_eq_true, if_false, d40_K1, wr1 (show i < 4611686018427387904 by omega)]
      exact hih
    | false =>
      unfold eI2 at hv
      simp only [loopN, d40_L2, lt, shr, dlt h1, dlt h2, dge0, Bool.and_self, if_true, Int.toNat_natCast, getD_mem h1, getD_mem h2, bneN, hv, Bool.not_false, Bool.false_and]
theorem d40_val (k : Nat) (l m : List I2) (hk : l.length < k) (hb : l.length < 4611686018427387904) : d40 k (l, (m, ())) = some ((eqs eI2 l m, ()), ()) := by
  by_cases h : l.length = m.length
  · have := d40_loop l m h hb l.length 0 k (by omega) hk
    simp only [d40, lt, shr, eql' h, Bool.false_eq_true, if_false]
    exact this
  · rw [eqs_ne h]
    simp only [d40, lt, shr, nel h, if_true]

theorem d41_loop (l m : List Bool) (hlm : l.length = m.length) (hb : l.length < 4611686018427387904) : ∀ r i k, i + r = l.length → r < k →
    loopN (d41_L2 (fun _ => some ((true, ()), ()))) k ((), ((i : Int), (m, (l, (((l.length : Nat) : Int), ()))))) = some ((eqs eB (l.drop i) (m.drop i), ()), ()) := by
  intro r
  induction r with
  | zero =>
    intro i k hi hk
    obtain ⟨k, rfl⟩ : ∃ k', k = k' + 1 := ⟨k - 1, by omega⟩
    rw [eqs_end (by omega) (by omega)]
    simp only [loopN, d41_L2, lt, dnlt (show l.length ≤ i by omega), Bool.false_eq_true, if_false]
  | succ r ih =>
    intro i k hi hk
    obtain ⟨k, rfl⟩ : ∃ k', k = k' + 1 := ⟨k - 1, by omega⟩
    have h1 : i < l.length := by omega
    have h2 : i < m.length := by omega
    have hih := ih (i + 1) k (by omega) (by omega)
    rw [eqs_drop h1 h2]
    cases hv : eB l[i] m[i] with
    | true =>
      unfold eB at hv
      simp only [loopN, d41_L2, lt, shr, dlt h1, dlt h2, dge0, Bool.and_self, if_true, Int.toNat_natCast, getD_mem h1, getD_mem h2, bneN, hv, Bool.not_true, Bool.true_and, Bool.false_eq_true, if_false, d41_K1, wr1 (show i < 4611686018427387904 by omega)]
      exact hih
    | false =>
      unfold eB at hv
      simp only [loopN, d41_L2, lt, shr, dlt h1, dlt h2, dge0, Bool.and_self, if_true, Int.toNat_natCast, getD_mem h1, getD_mem h2, bneN, hv, Bool.not_false, Bool.false_and]
theorem d41_val (k : Nat) (l m : List Bool) (hk : l.length < k) (hb : l.length < 4611686018427387904) : d41 k (l, (m, ())) = some ((eqs eB l m, ()), ()) := by
  by_cases h : l.length = m.length
  · have := d41_loop l m h hb l.length 0 k (by omega) hk
    simp only [d41, lt, shr, eql' h, Bool.false_eq_true, if_false]
    exact this
  · rw [eqs_ne h]
    simp only [d41, lt, shr, nel h, if_true]

theorem d42_loop (l m : List I2) (hlm : l.length = m.length) (hb : l.length < 4611686018427387904) : ∀ r i k, i + r = l.length → r < k →
    loopN (d42_L2 (fun _ => some ((true, ()), ()))) k ((), ((i : Int), (m, (l, (((l.length : Nat) : Int), ()))))) = some ((eqs eI2 (l.drop i) (m.drop i), ()), ()) := by
  intro r
  induction r with
  | zero =>
    intro i k hi hk
    obtain ⟨k, rfl⟩ : ∃ k', k = k' + 1 := ⟨k - 1, by omega⟩
    rw [eqs_end (by omega) (by omega)]
    simp only [loopN, d42_L2, lt, dnlt (show l.length ≤ i by omega), Bool.false_eq_true, if_false]
  | succ r ih =>
    intro i k hi hk
    obtain ⟨k, rfl⟩ : ∃ k', k = k' + 1 := ⟨k - 1, by omega⟩
    have h1 : i < l.length := by omega
    have h2 : i < m.length := by omega
    have hih := ih (i + 1) k (by omega) (by omega)
    rw [eqs_drop h1 h2]
    cases hv : eI2 l[i] m[i] with
    | true =>
      unfold eI2 at hv
      simp only [loopN, d42_L2, lt, shr, dlt h1, dlt h2, dge0, Bool.and_self, if_true, Int.toNat_natCast, getD_mem h1, getD_mem h2, bneN, hv, Bool.not_true, Bool.true_and, Bool.false_eq_true, if_false, d42_K1, wr1 (show i < 4611686018427387904 by omega)]
      exact hih
    | false =>
      unfold eI2 at hv
      simp only [loopN, d42_L2, lt, shr, dlt h1, dlt h2, dge0, Bool.and_self, if_true, Int.toNat_natCast, getD_mem h1, getD_mem h2, bneN, hv, Bool.not_false, Bool.false_and]
theorem d42_val (k : Nat) (l m : List I2) (hk : l.length < k) (hb : l.length < 4611686018427387904) : d42 k (l, (m, ())) = some ((eqs eI2 l m, ()), ()) := by
  by_cases h : l.length = m.length
  · have := d42_loop l m h hb l.length 0 k (by omega) hk
    simp only [d42, lt, shr, eql' h, Bool.false_eq_true, if_false]
    exact this
  · rw [eqs_ne h]
    simp only [d42, lt, shr, nel h, if_true]

theorem d23_loop (l m : List PO) (hlm : l.length = m.length) (hb : l.length < 4611686018427387904) : ∀ r i k, i + r = l.length → r < k →
    loopN (d23_L2 (fun _ => some ((true, ()), ()))) k ((), ((i : Int), (m, (l, (((l.length : Nat) : Int), ()))))) = some ((eqs ePO (l.drop i) (m.drop i), ()), ()) := by
  intro r
  induction r with
  | zero =>
    intro i k hi hk
    obtain ⟨k, rfl⟩ : ∃ k', k = k' + 1 := ⟨k - 1, by omega⟩
    rw [eqs_end (by omega) (by omega)]
    simp only [loopN, d23_L2, lt, dnlt (show l.length ≤ i by omega), Bool.false_eq_true, if_false]
  | succ r ih =>
    intro i k hi hk
    obtain ⟨k, rfl⟩ : ∃ k', k = k' + 1 := ⟨k - 1, by omega⟩
    have h1 : i < l.length := by omega
    have h2 : i < m.length := by omega
    have hih := ih (i + 1) k (by omega) (by omega)
    rw [eqs_drop h1 h2]
    cases hv : ePO l[i] m[i] with
    | true =>
      unfold ePO at hv
      simp only [loopN, d23_L2, lt, shr, dlt h1, dlt h2, dge0, Bool.and_self, if_true, Int.toNat_natCast, getD_mem h1, getD_mem h2, bneN, hv, Bool.not_true, Bool.true_and, Bool.false_eq_true, if_false, d23_K1, wr1 (show i < 4611686018427387904 by omega)]
      exact hih
    | false =>
      unfold ePO at hv
      simp only [loopN, d23_L2, lt, shr, dlt h1, dlt h2, dge0, Bool.and_self, if_true, Int.toNat_natCast, getD_mem h1, getD_mem h2, bneN, hv, Bool.not_false, Bool.false_and]
theorem d23_val (k : Nat) (l m : List PO) (hk : l.length < k) (hb : l.length < 4611686018427387904) : d23 k (l, (m, ())) = some ((eqs ePO l m, ()), ()) := by
  by_cases h : l.length = m.length
  · have := d23_loop l m h hb l.length 0 k (by omega) hk
    simp only [d23, lt, shr, eql' h, Bool.false_eq_true, if_false]
    exact this
  · rw [eqs_ne h]
    simp only [d23, lt, shr, nel h, if_true]

theorem d33_loop (l m : List Int) (hlm : l.length = m.length) (hb : l.length < 4611686018427387904) : ∀ r i k, i + r = l.length → r < k →
    loopN (d33_L2 (fun _ => some ((true, ()), ()))) k ((), ((i : Int), (m, (l, ())))) = some ((eqs eI (l.drop i) (m.drop i), ()), ()) := by
  intro r
  induction r with
  | zero =>
    intro i k hi hk
    obtain ⟨k, rfl⟩ : ∃ k', k = k' + 1 := ⟨k - 1, by omega⟩
    rw [eqs_end (by omega) (by omega)]
    simp only [loopN, d33_L2, lt, dnlt (show l.length ≤ i by omega), Bool.false_eq_true, if_false]
  | succ r ih =>
    intro i k hi hk
    obtain ⟨k, rfl⟩ : ∃ k', k = k' + 1 := ⟨k - 1, by omega⟩
    have h1 : i < l.length := by omega
    have h2 : i < m.length := by omega
    have hih := ih (i + 1) k (by omega) (by omega)
    rw [eqs_drop h1 h2]
    cases hv : eI l[i] m[i] with
    | true =>
      unfold eI at hv
      simp only [loopN, d33_L2, lt, shr, dlt h1, dlt h2, dge0, Bool.and_self, if_true, Int.toNat_natCast, getD_mem h1, getD_mem h2, bneN, hv, Bool.not_true, Bool.true_and, Bool.false_eq_true, if_false, d33_K1, wr1 (show i < 4611686018427387904 by omega)]
      exact hih
    | false =>
      unfold eI at hv
      simp only [loopN, d33_L2, lt, shr, dlt h1, dlt h2, dge0, Bool.and_self, if_true, Int.toNat_natCast, getD_mem h1, getD_mem h2, bneN, hv, Bool.not_false, Bool.false_and]
theorem d33_val (k : Nat) (l m : List Int) (hk : l.length < k) (hb : l.length < 4611686018427387904) : d33 k (l, (m, ())) = some ((eqs eI l m, ()), ()) := by
  by_cases h : l.length = m.length
  · have := d33_loop l m h hb l.length 0 k (by omega) hk
    simp only [d33, lt, shr, eql' h, Bool.false_eq_true, if_false]
    exact this
  · rw [eqs_ne h]
    simp only [d33, lt, shr, nel h, if_true]

theorem d50_l5 (X : ((PA × (PA × Unit)) × Unit) → Option ((Bool × Unit) × Unit)) (p q : PA) (hlm : p.2.2.2.2.1.length = q.2.2.2.2.1.length) (hb : p.2.2.2.2.1.length < 4611686018427387904) : ∀ r i k, i + r = p.2.2.2.2.1.length → r < k →
    loopN (d50_L5 X) k ((q, (p, ())), ((i : Int), ())) = if eqs (fun x y => eIS x y) (p.2.2.2.2.1.drop i) (q.2.2.2.2.1.drop i) = true then X ((q, (p, ())), ()) else some ((false, ()), ()) := by
  intro r
  induction r with
  | zero =>
    intro i k hi hk
    obtain ⟨k, rfl⟩ : ∃ k', k = k' + 1 := ⟨k - 1, by omega⟩
    rw [eqs_end (by omega) (by omega), if_pos rfl]
    simp only [loopN, d50_L5, lt, dnlt (show p.2.2.2.2.1.length ≤ i by omega), Bool.false_eq_true, if_false]
  | succ r ih =>
    intro i k hi hk
    obtain ⟨k, rfl⟩ : ∃ k', k = k' + 1 := ⟨k - 1, by omega⟩
    have h1 : i < p.2.2.2.2.1.length := by omega
    have h2 : i < q.2.2.2.2.1.length := by omega
    have hih := ih (i + 1) k (by omega) (by omega)
    rw [eqs_drop h1 h2]
    cases hv : eIS p.2.2.2.2.1[i] q.2.2.2.2.1[i] with
    | true =>
      unfold eIS at hv
      simp only [loopN, d50_L5, lt, shr, dlt h1, dlt h2, dge0, Bool.and_self, if_true, Int.toNat_natCast, getD_mem h1, getD_mem h2, bneN, hv, Bool.not_true, Bool.true_and, Bool.false_eq_true, if_false, d50_K4, wr1 (show i < 4611686018427387904 by omega)]
      exact hih
    | false =>
      unfold eIS at hv
      simp only [loopN, d50_L5, lt, shr, dlt h1, dlt h2, dge0, Bool.and_self, if_true, Int.toNat_natCast, getD_mem h1, getD_mem h2, bneN, hv, Bool.not_false, Bool.false_and, Bool.false_eq_true, if_false]

theorem d50_l2 (X : (Unit × Unit) → Option ((Bool × Unit) × Unit)) (p q : PA) (hlm : p.2.2.2.2.2.1.length = q.2.2.2.2.2.1.length) (hb : p.2.2.2.2.2.1.length < 4611686018427387904) : ∀ r i k, i + r = p.2.2.2.2.2.1.length → r < k →
    loopN (d50_L2 X) k ((q, (p, ())), ((i : Int), ())) = if eqs (fun x y => ePC x y) (p.2.2.2.2.2.1.drop i) (q.2.2.2.2.2.1.drop i) = true then X ((), ()) else some ((false, ()), ()) := by
  intro r
  induction r with
  | zero =>
    intro i k hi hk
    obtain ⟨k, rfl⟩ : ∃ k', k = k' + 1 := ⟨k - 1, by omega⟩
    rw [eqs_end (by omega) (by omega), if_pos rfl]
    simp only [loopN, d50_L2, lt, dnlt (show p.2.2.2.2.2.1.length ≤ i by omega), Bool.false_eq_true, if_false]
  | succ r ih =>
    intro i k hi hk
    obtain ⟨k, rfl⟩ : ∃ k', k = k' + 1 := ⟨k - 1, by omega⟩
    have h1 : i < p.2.2.2.2.2.1.length := by omega
    have h2 : i < q.2.2.2.2.2.1.length := by omega
    have hih := ih (i + 1) k (by omega) (by omega)
    rw [eqs_drop h1 h2]
    cases hv : ePC p.2.2.2.2.2.1[i] q.2.2.2.2.2.1[i] with
    | true =>
      unfold ePC at hv
      simp only [loopN, d50_L2, lt, shr, dlt h1, dlt h2, dge0, Bool.and_self, if_true, Int.toNat_natCast, getD_mem h1, getD_mem h2, bneN, hv, Bool.not_true, Bool.true_and, Bool.false_eq_true, if_false, d50_K1, wr1 (show i < 4611686018427387904 by omega)]
      exact hih
    | false =>
      unfold ePC at hv
      simp only [loopN, d50_L2, lt, shr, dlt h1, dlt h2, dge0, Bool.and_self, if_true, Int.toNat_natCast, getD_mem h1, getD_mem h2, bneN, hv, Bool.not_false, Bool.false_and, Bool.false_eq_true, if_false]

theorem d51_l8 (X : ((PA × (PA × Unit)) × Unit) → Option ((Bool × Unit) × Unit)) (p q : PA) (hlm : p.2.2.2.2.2.2.2.2.1.length = q.2.2.2.2.2.2.2.2.1.length) (hb : p.2.2.2.2.2.2.2.2.1.length < 4611686018427387904) : ∀ r i k, i + r = p.2.2.2.2.2.2.2.2.1.length → r < k →
    loopN (d51_L8 X) k ((q, (p, ())), ((i : Int), ())) = if eqs (fun x y => eI2 x y) (p.2.2.2.2.2.2.2.2.1.drop i) (q.2.2.2.2.2.2.2.2.1.drop i) = true then X ((q, (p, ())), ()) else some ((false, ()), ()) := by
  intro r
  induction r with
  | zero =>
    intro i k hi hk
    obtain ⟨k, rfl⟩ : ∃ k', k = k' + 1 := ⟨k - 1, by omega⟩
    rw [eqs_end (by omega) (by omega), if_pos rfl]
    simp only [loopN, d51_L8, lt, dnlt (show p.2.2.2.2.2.2.2.2.1.length ≤ i by omega), Bool.false_eq_true, if_false]
  | succ r ih =>
    intro i k hi hk
    obtain ⟨k, rfl⟩ : ∃ k', k = k' + 1 := ⟨k - 1, by omega⟩
    have h1 : i < p.2.2.2.2.2.2.2.2.1.length := by omega
    have h2 : i < q.2.2.2.2.2.2.2.2.1.length := by omega
    have hih := ih (i + 1) k (by omega) (by omega)
    rw [eqs_drop h1 h2]
    cases hv : eI2 p.2.2.2.2.2.2.2.2.1[i] q.2.2.2.2.2.2.2.2.1[i] with
    | true =>
      unfold eI2 at hv
      simp only [loopN, d51_L8, lt, shr, dlt h1, dlt h2, dge0, Bool.and_self, if_true, Int.toNat_natCast, getD_mem h1, getD_mem h2, bneN, hv, Bool.not_true, Bool.true_and, Bool.false_eq_true, if_false, d51_K7, wr1 (show i < 4611686018427387904 by omega)]
      exact hih
    | false =>
      unfold eI2 at hv
      simp only [loopN, d51_L8, lt, shr, dlt h1, dlt h2, dge0, Bool.and_self, if_true, Int.toNat_natCast, getD_mem h1, getD_mem h2, bneN, hv, Bool.not_false, Bool.false_and, Bool.false_eq_true, if_false]

theorem d51_l5 (X : ((PA × (PA × Unit)) × Unit) → Option ((Bool × Unit) × Unit)) (p q : PA) (hlm : p.2.2.2.2.2.2.2.2.2.1.length = q.2.2.2.2.2.2.2.2.2.1.length) (hb : p.2.2.2.2.2.2.2.2.2.1.length < 4611686018427387904) : ∀ r i k, i + r = p.2.2.2.2.2.2.2.2.2.1.length → r < k →
    loopN (d51_L5 X) k ((q, (p, ())), ((i : Int), ())) = if eqs (fun x y => eB x y) (p.2.2.2.2.2.2.2.2.2.1.drop i) (q.2.2.2.2.2.2.2.2.2.1.drop i) = true then X ((q, (p, ())), ()) else some ((false, ()), ()) := by
  intro r
  induction r with
  | zero =>
    intro i k hi hk
    obtain ⟨k, rfl⟩ : ∃ k', k = k' + 1 := ⟨k - 1, by omega⟩
    rw [eqs_end (by omega) (by omega), if_pos rfl]
    simp only [loopN, d51_L5, lt, dnlt (show p.2.2.2.2.2.2.2.2.2.1.length ≤ i by omega), Bool.false_eq_true, if_false]
  | succ r ih =>
    intro i k hi hk
    obtain ⟨k, rfl⟩ : ∃ k', k = k' + 1 := ⟨k - 1, by omega⟩
    have h1 : i < p.2.2.2.2.2.2.2.2.2.1.length := by omega
    have h2 : i < q.2.2.2.2.2.2.2.2.2.1.length := by omega
    have hih := ih (i + 1) k (by omega) (by omega)
    rw [eqs_drop h1 h2]
    cases hv : eB p.2.2.2.2.2.2.2.2.2.1[i] q.2.2.2.2.2.2.2.2.2.1[i] with
    | true =>
      unfold eB at hv
      simp only [loopN, d51_L5, lt, shr, dlt h1, dlt h2, dge0, Bool.and_self, if_true, Int.toNat_natCast, getD_mem h1, getD_mem h2, bneN, hv, Bool.not_true, Bool.true_and, Bool.false_eq_true, if_false, d51_K4, wr1 (show i < 4611686018427387904 by omega)]
      exact hih
    | false =>
      unfold eB at hv
      simp only [loopN, d51_L5, lt, shr, dlt h1, dlt h2, dge0, Bool.and_self, if_true, Int.toNat_natCast, getD_mem h1, getD_mem h2, bneN, hv, Bool.not_false, Bool.false_and, Bool.false_eq_true, if_false]

theorem d51_l2 (X : (Unit × Unit) → Option ((Bool × Unit) × Unit)) (p q : PA) (hlm : p.2.2.2.2.2.2.2.2.2.2.1.length = q.2.2.2.2.2.2.2.2.2.2.1.length) (hb : p.2.2.2.2.2.2.2.2.2.2.1.length < 4611686018427387904) : ∀ r i k, i + r = p.2.2.2.2.2.2.2.2.2.2.1.length → r < k →
    loopN (d51_L2 X) k ((q, (p, ())), ((i : Int), ())) = if eqs (fun x y => eI2 x y) (p.2.2.2.2.2.2.2.2.2.2.1.drop i) (q.2.2.2.2.2.2.2.2.2.2.1.drop i) = true then X ((), ()) else some ((false, ()), ()) := by
  intro r
  induction r with
  | zero =>
    intro i k hi hk
    obtain ⟨k, rfl⟩ : ∃ k', k = k' + 1 := ⟨k - 1, by omega⟩
    rw [eqs_end (by omega) (by omega), if_pos rfl]
    simp only [loopN, d51_L2, lt, dnlt (show p.2.2.2.2.2.2.2.2.2.2.1.length ≤ i by omega), Bool.false_eq_true, if_false]
  | succ r ih =>
    intro i k hi hk
    obtain ⟨k, rfl⟩ : ∃ k', k = k' + 1 := ⟨k - 1, by omega⟩
    have h1 : i < p.2.2.2.2.2.2.2.2.2.2.1.length := by omega
    have h2 : i < q.2.2.2.2.2.2.2.2.2.2.1.length := by omega
    have hih := ih (i + 1) k (by omega) (by omega)
    rw [eqs_drop h1 h2]
    cases hv : eI2 p.2.2.2.2.2.2.2.2.2.2.1[i] q.2.2.2.2.2.2.2.2.2.2.1[i] with
    | true =>
      unfold eI2 at hv
      simp only [loopN, d51_L2, lt, shr, dlt h1, dlt h2, dge0, Bool.and_self, if_true, Int.toNat_natCast, getD_mem h1, getD_mem h2, bneN, hv, Bool.not_true, Bool.true_and, Bool.false_eq_true, if_false, d51_K1, wr1 (show i < 4611686018427387904 by omega)]
      exact hih
    | false =>
      unfold eI2 at hv
      simp only [loopN, d51_L2, lt, shr, dlt h1, dlt h2, dge0, Bool.and_self, if_true, Int.toNat_natCast, getD_mem h1, getD_mem h2, bneN, hv, Bool.not_false, Bool.false_and, Bool.false_eq_true, if_false]

theorem d47_l2 (X : (Unit × Unit) → Option ((Bool × Unit) × Unit)) (p q : CH) (hlm : p.2.2.1.length = q.2.2.1.length) (hb : p.2.2.1.length < 4611686018427387904) : ∀ r i k, i + r = p.2.2.1.length → r < k →
    loopN (d47_L2 X) k ((q, (p, ())), ((i : Int), ())) = if eqs (fun x y => eI x y) (p.2.2.1.drop i) (q.2.2.1.drop i) = true then X ((), ()) else some ((false, ()), ()) := by
  intro r
  induction r with
  | zero =>
    intro i k hi hk
    obtain ⟨k, rfl⟩ : ∃ k', k = k' + 1 := ⟨k - 1, by omega⟩
    rw [eqs_end (by omega) (by omega), if_pos rfl]
    simp only [loopN, d47_L2, lt, dnlt (show p.2.2.1.length ≤ i by omega), Bool.false_eq_true, if_false]
  | succ r ih =>
    intro i k hi hk
    obtain ⟨k, rfl⟩ : ∃ k', k = k' + 1 := ⟨k - 1, by omega⟩
    have h1 : i < p.2.2.1.length := by omega
    have h2 : i < q.2.2.1.length := by omega
    have hih := ih (i + 1) k (by omega) (by omega)
    rw [eqs_drop h1 h2]
    cases hv : eI p.2.2.1[i] q.2.2.1[i] with
    | true =>
      unfold eI at hv
      simp only [loopN, d47_L2, lt, shr, dlt h1, dlt h2, dge0, Bool.and_self, if_true, Int.toNat_natCast, getD_mem h1, getD_mem h2, bneN, hv, Bool.not_true, Bool.true_and, Bool.false_eq_true, if_false, d47_K1, wr1 (show i < 4611686018427387904 by omega)]
      exact hih
    | false =>
      unfold eI at hv
      simp only [loopN, d47_L2, lt, shr, dlt h1, dlt h2, dge0, Bool.and_self, if_true, Int.toNat_natCast, getD_mem h1, getD_mem h2, bneN, hv, Bool.not_false, Bool.false_and, Bool.false_eq_true, if_false]

theorem d29_l8 (X : ((IM × (IM × Unit)) × Unit) → Option ((Bool × Unit) × Unit)) (p q : IM) (hlm : p.1.length = q.1.length) (hb : p.1.length < 4611686018427387904) : ∀ r i k, i + r = p.1.length → r < k →
    loopN (d29_L8 X) k ((q, (p, ())), ((i : Int), ())) = if eqs (fun x y => eSV x.1 y.1) (p.1.drop i) (q.1.drop i) = true then X ((q, (p, ())), ()) else some ((false, ()), ()) := by
  intro r
  induction r with
  | zero =>
    intro i k hi hk
    obtain ⟨k, rfl⟩ : ∃ k', k = k' + 1 := ⟨k - 1, by omega⟩
    rw [eqs_end (by omega) (by omega), if_pos rfl]
    simp only [loopN, d29_L8, lt, dnlt (show p.1.length ≤ i by omega), Bool.false_eq_true, if_false]
  | succ r ih =>
    intro i k hi hk
    obtain ⟨k, rfl⟩ : ∃ k', k = k' + 1 := ⟨k - 1, by omega⟩
    have h1 : i < p.1.length := by omega
    have h2 : i < q.1.length := by omega
    have hih := ih (i + 1) k (by omega) (by omega)
    rw [eqs_drop h1 h2]
    cases hv : eSV p.1[i].1 q.1[i].1 with
    | true =>
      unfold eSV at hv
      simp only [loopN, d29_L8, lt, shr, dlt h1, dlt h2, dge0, Bool.and_self, if_true, Int.toNat_natCast, getD_mem h1, getD_mem h2, bneN, hv, Bool.not_true, Bool.true_and, Bool.false_eq_true, if_false, d29_K7, wr1 (show i < 4611686018427387904 by omega)]
      exact hih
    | false =>
      unfold eSV at hv
      simp only [loopN, d29_L8, lt, shr, dlt h1, dlt h2, dge0, Bool.and_self, if_true, Int.toNat_natCast, getD_mem h1, getD_mem h2, bneN, hv, Bool.not_false, Bool.false_and, Bool.false_eq_true, if_false]

theorem d29_l5 (X : ((IM × (IM × Unit)) × Unit) → Option ((Bool × Unit) × Unit)) (p q : IM) (hlm : p.2.1.length = q.2.1.length) (hb : p.2.1.length < 4611686018427387904) : ∀ r i k, i + r = p.2.1.length → r < k →
    loopN (d29_L5 X) k ((q, (p, ())), ((i : Int), ())) = if eqs (fun x y => ePO x y) (p.2.1.drop i) (q.2.1.drop i) = true then X ((q, (p, ())), ()) else some ((false, ()), ()) := by
  intro r
  induction r with
  | zero =>
    intro i k hi hk
    obtain ⟨k, rfl⟩ : ∃ k', k = k' + 1 := ⟨k - 1, by omega⟩
    rw [eqs_end (by omega) (by omega), if_pos rfl]
    simp only [loopN, d29_L5, lt, dnlt (show p.2.1.length ≤ i by omega), Bool.false_eq_true, if_false]
  | succ r ih =>
    intro i k hi hk
    obtain ⟨k, rfl⟩ : ∃ k', k = k' + 1 := ⟨k - 1, by omega⟩
    have h1 : i < p.2.1.length := by omega
    have h2 : i < q.2.1.length := by omega
    have hih := ih (i + 1) k (by omega) (by omega)
    rw [eqs_drop h1 h2]
    cases hv : ePO p.2.1[i] q.2.1[i] with
    | true =>
      unfold ePO at hv
      simp only [loopN, d29_L5, lt, shr, dlt h1, dlt h2, dge0, Bool.and_self, if_true, Int.toNat_natCast, getD_mem h1, getD_mem h2, bneN, hv, Bool.not_true, Bool.true_and, Bool.false_eq_true, if_false, d29_K4, wr1 (show i < 4611686018427387904 by omega)]
      exact hih
    | false =>
      unfold ePO at hv
      simp only [loopN, d29_L5, lt, shr, dlt h1, dlt h2, dge0, Bool.and_self, if_true, Int.toNat_natCast, getD_mem h1, getD_mem h2, bneN, hv, Bool.not_false, Bool.false_and, Bool.false_eq_true, if_false]

end Go.Proofs.Ytledeaknnihlmaa.L
