import Derived.Test.YticemfakkgebhaaGreatDoorStD
namespace Go.Proofs.YticemfakkgebhaaGreatDoor.L
open Go Go.Lift
set_option linter.unusedVariables false
set_option linter.unusedSimpArgs false
set_option maxRecDepth 100000

theorem dge0 (i : Nat) : decide ((0 : Int) ≤ (i : Int)) = true := decide_eq_true (by omega)
theorem dlt {i n : Nat} (h : i < n) : decide ((i : Int) < (n : Int)) = true := decide_eq_true (by omega)
theorem dnlt {i n : Nat} (h : n ≤ i) : decide ((i : Int) < (n : Int)) = false := decide_eq_false (by omega)
theorem wr1 {i : Nat} (h : i < 4611686018427387904) : IntKind.wrap .i64 ((i : Int) + 1) = ((i + 1 : Nat) : Int) := by
  simp [IntKind.wrap, IntKind.signed, IntKind.bits]; omega
theorem wrn {i j : Nat} (h : i + j < 4611686018427387904) : IntKind.wrap .i64 ((i : Int) + (j : Int)) = ((i + j : Nat) : Int) := by
  simp [IntKind.wrap, IntKind.signed, IntKind.bits]; omega
theorem wrp {i : Nat} (h : i < 4611686018427387904) (h0 : 0 < i) : IntKind.wrap .i64 ((i : Int) - 1) = ((i - 1 : Nat) : Int) := by
  simp [IntKind.wrap, IntKind.signed, IntKind.bits]; omega
theorem fit1 {n b : Nat} (h : (n + 1) * b ≤ 140737488355328) (h2 : n + 1 ≤ 4611686018427387904) : appFits n 1 b = true := by
  simp [appFits, h, h2]

theorem known_true (k : Nat) : d6 (k + 60) () = some ((true, ()), ()) := by kernel_rfl

/-! ### own, SameInput, Same -/
theorem d38_loop (K : Unit × Unit → Option ((Bool × Unit) × Unit)) (x y : IN) (hl : x.2.2.2.1.length = y.2.2.2.1.length) (hb : x.2.2.2.1.length < 4611686018427387904) : ∀ n i k, i + n = x.2.2.2.1.length → n < k →
    loopN (d23_L2 K) k ((y, (x, ())), ((i : Int), ())) = if x.2.2.2.1.drop i = y.2.2.2.1.drop i then K ((), ()) else some ((false, ()), ()) := by
  intro n
  induction n with
  | zero =>
    intro i k hi hk
    obtain ⟨k, rfl⟩ : ∃ k', k = k' + 1 := ⟨k - 1, by omega⟩
    simp only [loopN, d23_L2, lt, dnlt (show x.2.2.2.1.length ≤ i by omega), Bool.false_eq_true, if_false]
    rw [List.drop_eq_nil_of_le (by omega), List.drop_eq_nil_of_le (by omega)]
    simp
  | succ n ih =>
    intro i k hi hk
    obtain ⟨k, rfl⟩ : ∃ k', k = k' + 1 := ⟨k - 1, by omega⟩
    have h1 : i < x.2.2.2.1.length := by omega
    have h2 : i < y.2.2.2.1.length := by omega
    have e1 : x.2.2.2.1.getD i 0 = x.2.2.2.1[i] := by simp [h1]
    have e2 : y.2.2.2.1.getD i 0 = y.2.2.2.1[i] := by simp [h2]
    simp only [loopN, d23_L2, lt, shr, dlt h1, dlt h2, dge0, Bool.and_self, if_true, Int.toNat_natCast, e1, e2, d23_K1, wr1 (show i < 4611686018427387904 by omega)]
    rw [List.drop_eq_getElem_cons h1, List.drop_eq_getElem_cons h2]
    by_cases hx : x.2.2.2.1[i] = y.2.2.2.1[i]
    · simp only [hx, bne_self_eq_false, Bool.false_eq_true, if_false]
      rw [ih (i + 1) k (by omega) (by omega)]
      simp only [List.cons.injEq, true_and]
    · have hne : (x.2.2.2.1[i] != y.2.2.2.1[i]) = true := by simpa using hx
      simp only [hne, if_true]
      rw [if_neg (by simp only [List.cons.injEq]; exact fun h => hx h.1)]

theorem sameInput (k : Nat) (x y : IN) (hb : x.2.2.2.1.length < 4611686018427387904) (hk : x.2.2.2.1.length < k) : d23 k (x, (y, ())) = some ((decide (x = y), ()), ()) := by
  obtain ⟨a, b, c, d, u⟩ := x
  obtain ⟨a', b', c', d', u'⟩ := y
  simp only [d23, lt, shr]
  by_cases h1 : a = a'
  · by_cases h2 : b = b'
    · by_cases h3 : c = c'
      · by_cases h4 : d.length = d'.length
        · simp only [h1, h2, h3, h4, bne_self_eq_false, Bool.false_eq_true, if_false]
          have := d38_loop (fun _ => some ((true, ()), ())) (a, b, c, d, u) (a', b', c', d', u') h4 hb d.length 0 k (by simp) hk
          subst h1 h2 h3
          refine Eq.trans this ?_
          simp only [List.drop_zero, Prod.mk.injEq]
          by_cases h5 : d = d' <;> simp [h5]
        · have : ((d.length : Int) != (d'.length : Int)) = true := by simp; omega
          have h5 : ¬ d = d' := fun h => h4 (by rw [h])
          simp [this, h1, h2, h3, h5]
      · have : (c != c') = true := by simpa using h3
        simp [this, h3]
    · have : (b != b') = true := by simpa using h2
      simp [this, h2]
  · have : (a != a') = true := by simpa using h1
    simp [this, h1]

def dOk (l : List IN) : Prop := ∀ x ∈ l, x.2.2.2.1.length * 8 ≤ 140737488355328
def dMax (l : List IN) : Nat := (l.map fun x => x.2.2.2.1.length).foldr max 0
theorem dMax_le {l : List IN} {x : IN} (h : x ∈ l) : x.2.2.2.1.length ≤ dMax l := by
  induction l with
  | nil => cases h
  | cons y l ih =>
    simp only [dMax, List.map_cons, List.foldr_cons]
    rcases List.mem_cons.1 h with rfl | h
    · exact Nat.le_max_left _ _
    · exact Nat.le_trans (ih h) (Nat.le_max_right _ _)

theorem d15_loop (K : Unit × Unit → Option ((Bool × Unit) × Unit)) (k0 : Nat) (x y : List IN) (hl : x.length = y.length) (hb : x.length < 4611686018427387904) (hd : dOk x) (h0 : dMax x < k0) : ∀ n i k, i + n = x.length → n < k →
    loopN (d8_L2 k0 K) k ((), ((i : Int), (y, (x, ())))) = if x.drop i = y.drop i then K ((), ()) else some ((false, ()), ()) := by
  intro n
  induction n with
  | zero =>
    intro i k hi hk
    obtain ⟨k, rfl⟩ : ∃ k', k = k' + 1 := ⟨k - 1, by omega⟩
    simp only [loopN, d8_L2, lt, dnlt (show x.length ≤ i by omega), Bool.false_eq_true, if_false]
    rw [List.drop_eq_nil_of_le (by omega), List.drop_eq_nil_of_le (by omega)]
    simp
  | succ n ih =>
    intro i k hi hk
    obtain ⟨k, rfl⟩ : ∃ k', k = k' + 1 := ⟨k - 1, by omega⟩
    have h1 : i < x.length := by omega
    have h2 : i < y.length := by omega
    have e1 : ∀ d, x.getD i d = x[i] := by simp [h1]
    have e2 : ∀ d, y.getD i d = y[i] := by simp [h2]
    have hm := hd x[i] (List.getElem_mem _)
    have hs := sameInput k0 x[i] y[i] (by omega) (Nat.lt_of_le_of_lt (dMax_le (List.getElem_mem _)) h0)
    simp only [loopN, d8_L2, lt, shr, dlt h1, dlt h2, dge0, Bool.and_self, if_true, Int.toNat_natCast, e1, e2, hs, Option.bind_some, d8_K1, wr1 (show i < 4611686018427387904 by omega)]
    rw [List.drop_eq_getElem_cons h1, List.drop_eq_getElem_cons h2]
    by_cases hx : x[i] = y[i]
    · simp only [hx, decide_true, Bool.not_true, Bool.false_eq_true, if_false]
      rw [ih (i + 1) k (by omega) (by omega)]
      simp only [List.cons.injEq, true_and]
    · simp only [hx, decide_false, Bool.not_false, if_true]
      rw [if_neg (by simp only [List.cons.injEq]; exact fun h => hx h.1)]

theorem same_eq (k : Nat) (x : List IN) (hb : x.length < 4611686018427387904) (hd : dOk x) (h0 : dMax x < k) (h1 : x.length < k) : d8 k (x, (x, ())) = some ((true, ()), ()) := by
  simp only [d8, lt, shr, bne_self_eq_false, Bool.false_eq_true, if_false]
  have := d15_loop (fun _ => some ((true, ()), ())) k x x rfl hb hd h0 x.length 0 k (by simp) h1
  refine Eq.trans this ?_
  simp

end Go.Proofs.YticemfakkgebhaaGreatDoor.L
