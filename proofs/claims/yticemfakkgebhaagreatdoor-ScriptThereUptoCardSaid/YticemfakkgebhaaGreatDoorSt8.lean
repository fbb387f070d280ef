import Derived.Test.YticemfakkgebhaaGreatDoorSt7
namespace Go.Proofs.YticemfakkgebhaaGreatDoor.L
open Go Go.Lift
set_option linter.unusedVariables false
set_option linter.unusedSimpArgs false
set_option maxRecDepth 100000

/-! ### Encode of any list -/
theorem pl_w2 (k : Nat) (hk : 4200000 < k) (w l : List Int) (hl : l.length ≤ 4194316) (hw : w.length ≤ 140737400000000) : d28 k ((w, (0, ())), (l, (4194316, ((), ())))) = some ((), ((w ++ encL l, (0, ())), ())) := by
  have e := w32 k (by omega) w l (by omega) (by omega)
  have := pl_loop k (by omega) l (by omega) l.length 0 k (w ++ enc32 l.length) (by omega) (by omega) (by rw [List.length_append, enc32_len]; omega)
  simp only [d28, lt, shr, e, Option.bind_some]
  refine Eq.trans this ?_
  rw [List.drop_zero, List.append_assoc, encL]
theorem pl_long (k : Nat) (hk : 8 < k) (w l : List Int) (hl : 4194316 < l.length) : d28 k ((w, (0, ())), (l, (4194316, ((), ())))) = some ((), ((w, (1, ())), ())) := by
  obtain ⟨k, rfl⟩ : ∃ k', k = k' + 1 := ⟨k - 1, by omega⟩
  have e0 : ((0 : Int) != 0) = false := rfl
  have e1 : ((1 : Int) != 0) = true := rfl
  have d1 : decide ((l.length : Int) > 4194316) = true := decide_eq_true (by omega)
  have d2 : decide ((0 : Int) < (l.length : Int)) = true := decide_eq_true (by omega)
  have d3 : decide ((0 : Int) ≤ 0) = true := rfl
  simp only [d28, d24x1, d45, lt, shr, e0, d1, e1, Bool.false_eq_true, if_false, if_true, Option.bind_some, loopN, d28_L3, d2, d3, Bool.and_self]
theorem put_any (k : Nat) (hk : 4200000 < k) (w : List Int) (x : IN) (hw : w.length ≤ 140737300000000) :
    (x.2.2.2.1.length ≤ 4194316 ∧ d11 k ((w, (0, ())), (x, ())) = some ((), ((w ++ encI x, (0, ())), ()))) ∨ (4194316 < x.2.2.2.1.length ∧ ∃ w', d11 k ((w, (0, ())), (x, ())) = some ((), ((w', (1, ())), ()))) := by
  have e1 := w64 k (by omega) w x.1 (by omega)
  have e2 := w64 k (by omega) (w ++ enc64 x.1) x.2.1 (by rw [List.length_append, enc64_len]; omega)
  have e3 := w64 k (by omega) (w ++ enc64 x.1 ++ enc64 x.2.1) x.2.2.1 (by simp only [List.length_append, enc64_len]; omega)
  by_cases h : x.2.2.2.1.length ≤ 4194316
  · have e4 := pl_w2 k hk (w ++ enc64 x.1 ++ enc64 x.2.1 ++ enc64 x.2.2.1) x.2.2.2.1 h (by simp only [List.length_append, enc64_len]; omega)
    refine .inl ⟨h, ?_⟩
    simp only [d11, e1, e2, e3, e4, Option.bind_some]
    simp only [encI, List.append_assoc]
  · have e4 := pl_long k (by omega) (w ++ enc64 x.1 ++ enc64 x.2.1 ++ enc64 x.2.2.1) x.2.2.2.1 (by omega)
    exact .inr ⟨by omega, _, by simp only [d11, e1, e2, e3, e4, Option.bind_some]; rfl⟩
theorem encI_len (x : IN) : (encI x).length = 28 + 8 * x.2.2.2.1.length := by
  simp only [encI, List.length_append, enc64_len, encL_len]; omega
theorem pi_any (k0 : Nat) (hk0 : 4200000 < k0) (l : List IN) (hl : l.length ≤ 65536) : ∀ (m i k : Nat) (w : List Int), i + m = l.length → m + 1 < k → w.length ≤ 4 + i * 33554560 →
    ((∀ x ∈ l.drop i, x.2.2.2.1.length ≤ 4194316) ∧ loopN (d10_L3 k0 d10_K1) k (((w, (0, ())), ()), ((i : Int), ((), (l, ((l.length : Int), ()))))) = some ((), ((w ++ (l.drop i).flatMap encI, (0, ())), ()))) ∨
    ((∃ x ∈ l, 4194316 < x.2.2.2.1.length) ∧ ∃ w', loopN (d10_L3 k0 d10_K1) k (((w, (0, ())), ()), ((i : Int), ((), (l, ((l.length : Int), ()))))) = some ((), ((w', (1, ())), ()))) := by
  intro m
  induction m with
  | zero =>
    intro i k w hi hk hw
    obtain ⟨k, rfl⟩ : ∃ k', k = k' + 1 := ⟨k - 1, by omega⟩
    have : l.drop i = [] := List.drop_eq_nil_of_le (by omega)
    refine .inl ⟨by rw [this]; simp, ?_⟩
    simp only [loopN, d10_L3, lt, dnlt (show l.length ≤ i by omega), Bool.false_eq_true, if_false, d10_K1, this, List.flatMap_nil, List.append_nil]
  | succ m ih =>
    intro i k w hi hk hw
    obtain ⟨k, rfl⟩ : ∃ k', k = k' + 1 := ⟨k - 1, by omega⟩
    have h1 : i < l.length := by omega
    have hg : l.getD i ((0 : Int), ((0 : Int), ((0 : Int), (([] : List Int), ())))) = l[i] := by
      rw [List.getD_eq_getElem?_getD, List.getElem?_eq_getElem h1]; rfl
    have e0 : ((0 : Int) != 0) = false := rfl
    have e1 : ((1 : Int) != 0) = true := rfl
    rcases put_any k0 hk0 w l[i] (by omega) with ⟨hs, e⟩ | ⟨hs, w', e⟩
    · have hwl : (w ++ encI l[i]).length ≤ 4 + (i + 1) * 33554560 := by rw [List.length_append, encI_len]; omega
      rcases ih (i + 1) k (w ++ encI l[i]) (by omega) (by omega) hwl with ⟨ha, h⟩ | ⟨hx, w', h⟩
      · refine .inl ⟨?_, ?_⟩
        · rw [List.drop_eq_getElem_cons h1]
          intro x hx
          rcases List.mem_cons.1 hx with rfl | hx
          · exact hs
          · exact ha x hx
        · refine Eq.trans ?_ (h.trans ?_)
          · simp only [loopN, d10_L3, lt, shr, dlt h1, dge0, Bool.and_self, if_true, Int.toNat_natCast, e0, Bool.false_eq_true, if_false, hg, e, Option.bind_some, d10_K2, wr1 (show i < 4611686018427387904 by omega)]
          · rw [List.drop_eq_getElem_cons h1, List.flatMap_cons, List.append_assoc]
      · refine .inr ⟨hx, w', Eq.trans ?_ h⟩
        simp only [loopN, d10_L3, lt, shr, dlt h1, dge0, Bool.and_self, if_true, Int.toNat_natCast, e0, Bool.false_eq_true, if_false, hg, e, Option.bind_some, d10_K2, wr1 (show i < 4611686018427387904 by omega)]
    · refine .inr ⟨⟨l[i], List.getElem_mem h1, hs⟩, ?_⟩
      have step : loopN (d10_L3 k0 d10_K1) (k + 1) (((w, (0, ())), ()), ((i : Int), ((), (l, ((l.length : Int), ()))))) = loopN (d10_L3 k0 d10_K1) k (((w', (1, ())), ()), (((i + 1 : Nat) : Int), ((), (l, ((l.length : Int), ()))))) := by
        simp only [loopN, d10_L3, lt, shr, dlt h1, dge0, Bool.and_self, if_true, Int.toNat_natCast, e0, Bool.false_eq_true, if_false, hg, e, Option.bind_some, d10_K2, wr1 (show i < 4611686018427387904 by omega)]
      rw [step]
      obtain ⟨k, rfl⟩ : ∃ k', k = k' + 1 := ⟨k - 1, by omega⟩
      by_cases h2 : i + 1 < l.length
      · exact ⟨w', by simp only [loopN, d10_L3, lt, shr, dlt h2, dge0, Bool.and_self, if_true, e1]⟩
      · exact ⟨w', by simp only [loopN, d10_L3, lt, dnlt (show l.length ≤ i + 1 by omega), Bool.false_eq_true, if_false, d10_K1]⟩
end Go.Proofs.YticemfakkgebhaaGreatDoor.L
