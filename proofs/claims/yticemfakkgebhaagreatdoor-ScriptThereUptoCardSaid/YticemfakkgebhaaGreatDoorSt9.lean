import Derived.Test.YticemfakkgebhaaGreatDoorSt8
namespace Go.Proofs.YticemfakkgebhaaGreatDoor.L
open Go Go.Lift
set_option linter.unusedVariables false
set_option linter.unusedSimpArgs false
set_option maxRecDepth 100000

theorem pi_many (k : Nat) (hk : 8 < k) (l : List IN) (hl : 65536 < l.length) : d10 k (([], (0, ())), (l, (65536, ((), ())))) = some ((), (([], (1, ())), ())) := by
  obtain ⟨k, rfl⟩ : ∃ k', k = k' + 1 := ⟨k - 1, by omega⟩
  have e0 : ((0 : Int) != 0) = false := rfl
  have e1 : ((1 : Int) != 0) = true := rfl
  have d1 : decide ((l.length : Int) > 65536) = true := decide_eq_true (by omega)
  have d2 : decide ((0 : Int) < (l.length : Int)) = true := decide_eq_true (by omega)
  have d3 : decide ((0 : Int) ≤ 0) = true := rfl
  simp only [d10, d24x2, d25, lt, shr, e0, d1, e1, Bool.false_eq_true, if_false, if_true, Option.bind_some, loopN, d10_L3, d2, d3, Bool.and_self]
theorem flatI_ge {l : List IN} {x : IN} (h : x ∈ l) : (encI x).length ≤ (l.flatMap encI).length := by
  induction l with
  | nil => cases h
  | cons y l ih =>
    rw [List.flatMap_cons, List.length_append]
    rcases List.mem_cons.1 h with rfl | h
    · omega
    · have := ih h; omega
theorem encIs_len (l : List IN) : (encIs l).length = 4 + (l.flatMap encI).length := by rw [encIs, List.length_append, enc32_len]
theorem flatI_le (l : List IN) (h : ∀ x ∈ l, x.2.2.2.1.length ≤ 4194316) : (l.flatMap encI).length ≤ l.length * 33554560 := by
  induction l with
  | nil => simp
  | cons x l ih =>
    have := ih fun y hy => h y (List.mem_cons_of_mem _ hy)
    have hx := h x (List.mem_cons_self ..)
    rw [List.flatMap_cons, List.length_append, encI_len, List.length_cons]; omega
theorem enc_any (k : Nat) (hk : 4200000 < k) (l : List IN) :
    (l.length ≤ 65536 ∧ (encIs l).length ≤ 4194304 ∧ ∃ s A c4 : List Int, s = A ++ encIs l ++ c4 ∧ A.length = 8 ∧ c4.length = 4 ∧ (∀ y ∈ s, isB y) ∧ d13 k (3, (encIs l, ())) = some ((s, (0, ())), ()) ∧ d4 k (l, ()) = some ((s, (0, ())), ())) ∨
    ((65536 < l.length ∨ 4194304 < (encIs l).length) ∧ d4 k (l, ()) = some (([], (1, ())), ())) := by
  have e0 : ((0 : Int) != 0) = false := rfl
  have e1 : ((1 : Int) != 0) = true := rfl
  by_cases hl : 65536 < l.length
  · exact .inr ⟨.inl hl, by simp only [d4, d9, lt, Option.bind_some, pi_many k (by omega) l hl, d12, e1, if_true]⟩
  have e := w32i k (by omega) [] l (by simp) (by omega)
  rcases pi_any k hk l (by omega) l.length 0 k ([] ++ enc32 l.length) (by omega) (by omega) (by rw [List.nil_append, enc32_len]; omega) with ⟨ha, h⟩ | ⟨⟨x, hx, hlong⟩, w', h⟩
  · have h10 : d10 k (([], (0, ())), (l, (65536, ((), ())))) = some ((), ((encIs l, (0, ())), ())) := by
      simp only [d10, lt, shr, e, Option.bind_some]
      refine Eq.trans h ?_
      rw [List.drop_zero, List.nil_append, encIs]
    have hle := flatI_le l (by simpa using ha)
    have hc : (encIs l).length ≤ 140737488355328 := by rw [encIs_len]; omega
    by_cases hs : (encIs l).length ≤ 4194304
    · obtain ⟨s, A, c4, hf, hA, h4, hB, h50⟩ := seal_form k hk (encIs l) hs (encIs_isB l)
      exact .inl ⟨by omega, hs, s, A, c4, hf, hA, h4, hB, h50, by simp only [d4, d9, lt, Option.bind_some, h10, d12, e0, Bool.false_eq_true, if_false, d29, if_pos hc, h50]⟩
    · have d1 : decide ((((encIs l).length : Nat) : Int) > 4194304) = true := decide_eq_true (by omega)
      exact .inr ⟨.inr (by omega), by simp only [d4, d9, lt, Option.bind_some, h10, d12, e0, Bool.false_eq_true, if_false, d29, if_pos hc, d13, d1, if_true]⟩
  · have h10 : d10 k (([], (0, ())), (l, (65536, ((), ())))) = some ((), ((w', (1, ())), ())) := by
      simp only [d10, lt, shr, e, Option.bind_some]
      exact h
    have hge := flatI_ge hx
    rw [encI_len] at hge
    exact .inr ⟨.inr (by rw [encIs_len]; omega), by simp only [d4, d9, lt, Option.bind_some, h10, d12, e1, if_true]⟩

/-! ### Copy -/
theorem copy_loop (k0 : Nat) (l : List IN) (hd : dOk l) (hl : l.length * 48 ≤ 140737488355328) : ∀ m i k, i + m = l.length → m < k →
    loopN (d5_L3 k0 d5_K1) k ((l.take i, ()), ((i : Int), (l, ()))) = some ((l, ()), ()) := by
  intro m
  induction m with
  | zero =>
    intro i k hi hk
    obtain ⟨k, rfl⟩ : ∃ k', k = k' + 1 := ⟨k - 1, by omega⟩
    have : l.take i = l := List.take_of_length_le (by omega)
    simp only [loopN, d5_L3, lt, dnlt (show l.length ≤ i by omega), Bool.false_eq_true, if_false, d5_K1, this]
  | succ m ih =>
    intro i k hi hk
    obtain ⟨k, rfl⟩ : ∃ k', k = k' + 1 := ⟨k - 1, by omega⟩
    have h1 : i < l.length := by omega
    have hg : l.getD i ((0 : Int), ((0 : Int), ((0 : Int), (([] : List Int), ())))) = l[i] := by
      rw [List.getD_eq_getElem?_getD, List.getElem?_eq_getElem h1]; rfl
    have hdi := hd l[i] (List.getElem_mem h1)
    have f1 : appFits 0 l[i].2.2.2.1.length 8 = true := by simp only [appFits]; simp; omega
    have f2 : appFits (l.take i).length (List.length [l[i]]) 48 = true := by
      simp only [appFits, List.length_take, List.length_cons, List.length_nil]; simp; omega
    have := ih (i + 1) k (by omega) (by omega)
    rw [← List.take_append_getElem h1] at this
    refine Eq.trans ?_ this
    simp only [loopN, d5_L3, lt, shr, dlt h1, dge0, Bool.and_self, if_true, Int.toNat_natCast, hg, d14, d31, f1, f2, Option.bind_some, d5_K2, wr1 (show i < 4611686018427387904 by omega)]
theorem copy_eq (k : Nat) (l : List IN) (hd : dOk l) (hl : l.length * 48 ≤ 140737488355328) (hk : l.length < k) : d5 k (l, ()) = some ((l, ()), ()) := by
  have := copy_loop k l hd hl l.length 0 k (by omega) hk
  simp only [d5, shr]
  exact this
end Go.Proofs.YticemfakkgebhaaGreatDoor.L
