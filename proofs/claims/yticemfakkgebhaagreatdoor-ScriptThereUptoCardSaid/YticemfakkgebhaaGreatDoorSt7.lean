import Derived.Test.YticemfakkgebhaaGreatDoorSt6
namespace Go.Proofs.YticemfakkgebhaaGreatDoor.L
open Go Go.Lift
set_option linter.unusedVariables false
set_option linter.unusedSimpArgs false
set_option maxRecDepth 100000

/-! ### lists that were told are read -/
def inW (x : Int) : Prop := -9223372036854775808 ≤ x ∧ x ≤ 9223372036854775807
theorem enc64_isB (x : Int) : ∀ y ∈ enc64 x, isB y := bigL_isB _ _
theorem enc32_isB (n : Nat) : ∀ y ∈ enc32 n, isB y := bigL_isB _ _
theorem app_isB {a b : List Int} (ha : ∀ y ∈ a, isB y) (hb : ∀ y ∈ b, isB y) : ∀ y ∈ a ++ b, isB y := fun y hy => by
  rcases List.mem_append.1 hy with h | h
  · exact ha y h
  · exact hb y h
theorem flat_isB {α : Type} (e : α → List Int) (he : ∀ x, ∀ y ∈ e x, isB y) (l : List α) : ∀ y ∈ l.flatMap e, isB y := fun y hy => by
  obtain ⟨x, _, h⟩ := List.mem_flatMap.1 hy
  exact he x y h
theorem encL_isB (l : List Int) : ∀ y ∈ encL l, isB y := app_isB (enc32_isB _) (flat_isB _ enc64_isB _)
theorem encI_isB (x : IN) : ∀ y ∈ encI x, isB y := app_isB (enc64_isB _) (app_isB (enc64_isB _) (app_isB (enc64_isB _) (encL_isB _)))
theorem encIs_isB (l : List IN) : ∀ y ∈ encIs l, isB y := app_isB (enc32_isB _) (flat_isB _ encI_isB _)

theorem gl_bloop (k0 : Nat) (hk0 : 8 < k0) : ∀ (l : List Int) (i k n : Nat) (acc : List Int) (rest : List Int), i + l.length = n → n ≤ 4194304 → l.length < k → acc.length = i → (∀ y ∈ rest, isB y) → (∀ x ∈ l, inW x) →
    loopN (d43_L3 k0 (d43_K1 k0)) k (((l.flatMap enc64 ++ rest, (0, ())), (acc, ())), ((i : Int), ((), ((n : Int), ())))) = some ((acc ++ l, ()), ((rest, (0, ())), ())) := by
  intro l
  induction l with
  | nil =>
    intro i k n acc rest hi hn hk ha hr hx
    obtain ⟨k, rfl⟩ : ∃ k', k = k' + 1 := ⟨k - 1, by simp at hk; omega⟩
    have hi : i = n := by simpa using hi
    have e6 : decide (((acc.length : Nat) : Int) ≤ ((acc.length : Nat) : Int)) = true := decide_eq_true (by omega)
    simp only [loopN, d43_L3, lt, dnlt (show n ≤ i by omega), Bool.false_eq_true, if_false, d43_K1, d55, dge0, e6, Bool.and_self, if_true, Int.toNat_natCast, List.take_length, Option.bind_some, List.flatMap_nil, List.nil_append, List.append_nil]
  | cons x l ih =>
    intro i k n acc rest hi hn hk ha hr hx
    simp only [List.length_cons] at hi hk
    obtain ⟨k, rfl⟩ : ∃ k', k = k' + 1 := ⟨k - 1, by omega⟩
    have hr' : ∀ y ∈ l.flatMap enc64 ++ rest, isB y := app_isB (flat_isB _ enc64_isB _) hr
    have e := i64_back k0 hk0 x (hx x (List.mem_cons_self ..)) (l.flatMap enc64 ++ rest) hr'
    have fits : appFits acc.length (List.length [x]) 8 = true := by
      simp only [appFits, List.length_cons, List.length_nil]; simp; omega
    have := ih (i + 1) k n (acc ++ [x]) rest (by omega) hn (by omega) (by simp [ha]) hr (fun z hz => hx z (List.mem_cons_of_mem _ hz))
    rw [List.append_assoc, List.singleton_append] at this
    rw [← this, List.flatMap_cons, List.append_assoc]
    simp only [loopN, d43_L3, lt, shr, dlt (show i < n by omega), if_true, e, Option.bind_some, fits, bne_self_eq_false, Bool.false_eq_true, if_false, d43_K2, wr1 (show i < 4611686018427387904 by omega)]
theorem gl_back (k : Nat) (hk : 4200000 < k) (l : List Int) (hl : l.length ≤ 4194304) (hx : ∀ x ∈ l, inW x) (rest : List Int) (hr : ∀ y ∈ rest, isB y) (hmin : l.length ≤ (l.flatMap enc64 ++ rest).length) :
    d43 k ((encL l ++ rest, (0, ())), (4194316, ((), ()))) = some ((l, ()), ((rest, (0, ())), ())) := by
  have e0 : ((0 : Int) != 0) = false := rfl
  have hr' : ∀ y ∈ l.flatMap enc64 ++ rest, isB y := app_isB (flat_isB _ enc64_isB _) hr
  have e := u32_back k (by omega) l.length (by omega) (l.flatMap enc64 ++ rest) hr'
  rw [← List.append_assoc] at e
  have d1 : decide ((l.length : Int) > 4194316) = false := decide_eq_false (by omega)
  have d2 : decide ((l.length : Int) > (((l.flatMap enc64 ++ rest).length : Nat) : Int)) = false := decide_eq_false (by omega)
  have h := gl_bloop k (by omega) l 0 k l.length [] rest (by omega) (by omega) (by omega) rfl hr hx
  rw [List.nil_append] at h
  rw [← h]
  simp only [d43, encL, lt, shr, e0, Bool.false_eq_true, if_false, e, Option.bind_some, d1, d2, d43_K4]
  rfl

theorem flat_ge {α : Type} (e : α → List Int) (he : ∀ x, 1 ≤ (e x).length) : ∀ l : List α, l.length ≤ (l.flatMap e).length
  | [] => by simp
  | x :: l => by
    have := flat_ge e he l
    have := he x
    rw [List.flatMap_cons, List.length_append, List.length_cons]; omega
def okI (x : IN) : Prop := inW x.1 ∧ inW x.2.1 ∧ inW x.2.2.1 ∧ x.2.2.2.1.length ≤ 4194304 ∧ ∀ y ∈ x.2.2.2.1, inW y
theorem get_back (k : Nat) (hk : 4200000 < k) (x : IN) (hx : okI x) (rest : List Int) (hr : ∀ y ∈ rest, isB y) : d21 k ((encI x ++ rest, (0, ())), ()) = some ((x, ()), ((rest, (0, ())), ())) := by
  obtain ⟨h1, h2, h3, h4, h5⟩ := hx
  have e4 := gl_back k hk x.2.2.2.1 h4 h5 rest hr (by
    have := flat_ge enc64 (fun x => by rw [enc64_len]; omega) x.2.2.2.1
    rw [List.length_append]; omega)
  have b4 := app_isB (encL_isB x.2.2.2.1) hr
  have e3 := i64_back k (by omega) x.2.2.1 h3 _ b4
  have b3 := app_isB (enc64_isB x.2.2.1) b4
  have e2 := i64_back k (by omega) x.2.1 h2 _ b3
  have b2 := app_isB (enc64_isB x.2.1) b3
  have e1 := i64_back k (by omega) x.1 h1 _ b2
  simp only [encI, List.append_assoc]
  simp only [d21, e1, e2, e3, e4, Option.bind_some]

theorem gi_bloop (k0 : Nat) (hk0 : 4200000 < k0) : ∀ (l : List IN) (i k n : Nat) (acc : List IN) (rest : List Int), i + l.length = n → n ≤ 4194304 → l.length < k → acc.length = i → (∀ y ∈ rest, isB y) → (∀ x ∈ l, okI x) →
    loopN (d20_L3 k0 (d20_K1 k0)) k (((l.flatMap encI ++ rest, (0, ())), (acc, ())), ((i : Int), ((), ((n : Int), ())))) = some ((acc ++ l, ()), ((rest, (0, ())), ())) := by
  intro l
  induction l with
  | nil =>
    intro i k n acc rest hi hn hk ha hr hx
    obtain ⟨k, rfl⟩ : ∃ k', k = k' + 1 := ⟨k - 1, by simp at hk; omega⟩
    have hi : i = n := by simpa using hi
    have e6 : decide (((acc.length : Nat) : Int) ≤ ((acc.length : Nat) : Int)) = true := decide_eq_true (by omega)
    simp only [loopN, d20_L3, lt, dnlt (show n ≤ i by omega), Bool.false_eq_true, if_false, d20_K1, d41, dge0, e6, Bool.and_self, if_true, Int.toNat_natCast, List.take_length, Option.bind_some, List.flatMap_nil, List.nil_append, List.append_nil]
  | cons x l ih =>
    intro i k n acc rest hi hn hk ha hr hx
    simp only [List.length_cons] at hi hk
    obtain ⟨k, rfl⟩ : ∃ k', k = k' + 1 := ⟨k - 1, by omega⟩
    have hr' : ∀ y ∈ l.flatMap encI ++ rest, isB y := app_isB (flat_isB _ encI_isB _) hr
    have e := get_back k0 hk0 x (hx x (List.mem_cons_self ..)) (l.flatMap encI ++ rest) hr'
    have fits : appFits acc.length (List.length [x]) 48 = true := by
      simp only [appFits, List.length_cons, List.length_nil]; simp; omega
    have := ih (i + 1) k n (acc ++ [x]) rest (by omega) hn (by omega) (by simp [ha]) hr (fun z hz => hx z (List.mem_cons_of_mem _ hz))
    rw [List.append_assoc, List.singleton_append] at this
    rw [← this, List.flatMap_cons, List.append_assoc]
    simp only [loopN, d20_L3, lt, shr, dlt (show i < n by omega), if_true, e, Option.bind_some, fits, bne_self_eq_false, Bool.false_eq_true, if_false, d20_K2, wr1 (show i < 4611686018427387904 by omega)]
theorem gi_back (k : Nat) (hk : 4200000 < k) (l : List IN) (hl : l.length ≤ 65536) (hx : ∀ x ∈ l, okI x) (rest : List Int) (hr : ∀ y ∈ rest, isB y) (hmin : l.length ≤ (l.flatMap encI ++ rest).length) :
    d20 k ((encIs l ++ rest, (0, ())), (65536, ((), ()))) = some ((l, ()), ((rest, (0, ())), ())) := by
  have e0 : ((0 : Int) != 0) = false := rfl
  have hr' : ∀ y ∈ l.flatMap encI ++ rest, isB y := app_isB (flat_isB _ encI_isB _) hr
  have e := u32_back k (by omega) l.length (by omega) (l.flatMap encI ++ rest) hr'
  rw [← List.append_assoc] at e
  have d1 : decide ((l.length : Int) > 65536) = false := decide_eq_false (by omega)
  have d2 : decide ((l.length : Int) > (((l.flatMap encI ++ rest).length : Nat) : Int)) = false := decide_eq_false (by omega)
  have h := gi_bloop k (by omega) l 0 k l.length [] rest (by omega) (by omega) (by omega) rfl hr hx
  rw [List.nil_append] at h
  rw [← h]
  simp only [d20, encIs, lt, shr, e0, Bool.false_eq_true, if_false, e, Option.bind_some, d1, d2, d20_K4]
  rfl
end Go.Proofs.YticemfakkgebhaaGreatDoor.L
