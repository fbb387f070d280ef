import Derived.Test.YticemfakkgebhaaGreatDoorSt4
namespace Go.Proofs.YticemfakkgebhaaGreatDoor.L
open Go Go.Lift
set_option linter.unusedVariables false
set_option linter.unusedSimpArgs false
set_option maxRecDepth 100000

/-! ### the writer appends just that -/
theorem enc64_len (x : Int) : (enc64 x).length = 8 := bigL_len _ _
theorem enc32_len (n : Nat) : (enc32 n).length = 4 := bigL_len _ _
theorem fits1 {a b : Nat} (h : a + b ≤ 140737488355328) : appFits a b 1 = true := by
  simp only [appFits]; simp; omega
theorem w64 (k : Nat) (hk : 8 < k) (w : List Int) (x : Int) (h : w.length ≤ 140737488355000) : d27 k ((w, (0, ())), (x, ())) = some ((), ((w ++ enc64 x, (0, ())), ())) := by
  have e := big_eq (IntKind.wrap .u64 x) (n := 8) (by omega) k hk
  have e8 : ((8 : Nat) : Int) = 8 := rfl
  rw [e8] at e
  have f := fits1 (a := w.length) (b := (bigL (IntKind.wrap .u64 x) 8).length) (by rw [bigL_len]; omega)
  have e0 : ((0 : Int) != 0) = false := rfl
  simp only [d27, d24, d44, lt, e0, Bool.false_eq_true, if_false, e, Option.bind_some, f, Bool.and_self, if_true, enc64]
theorem w32 (k : Nat) (hk : 8 < k) (w : List Int) (l : List Int) (h : w.length ≤ 140737488355000) (hl : l.length ≤ 4194316) : d24x1 k ((w, (0, ())), ((l, (4194316, ())), ())) = some ((), ((w ++ enc32 l.length, (0, ())), ())) := by
  have e := big_eq (IntKind.wrap .u64 (l.length : Int)) (n := 4) (by omega) k hk
  have e8 : ((4 : Nat) : Int) = 4 := rfl
  rw [e8] at e
  have f := fits1 (a := w.length) (b := (bigL (IntKind.wrap .u64 (l.length : Int)) 4).length) (by rw [bigL_len]; omega)
  have e0 : ((0 : Int) != 0) = false := rfl
  have e1 : decide ((l.length : Int) > 4194316) = false := decide_eq_false (by omega)
  simp only [d24x1, d45, lt, e0, e1, Bool.false_eq_true, if_false, e, Option.bind_some, f, Bool.and_self, if_true, enc32]
theorem w32i (k : Nat) (hk : 8 < k) (w : List Int) (l : List IN) (h : w.length ≤ 140737488355000) (hl : l.length ≤ 65536) : d24x2 k ((w, (0, ())), ((l, (65536, ())), ())) = some ((), ((w ++ enc32 l.length, (0, ())), ())) := by
  have e := big_eq (IntKind.wrap .u64 (l.length : Int)) (n := 4) (by omega) k hk
  have e8 : ((4 : Nat) : Int) = 4 := rfl
  rw [e8] at e
  have f := fits1 (a := w.length) (b := (bigL (IntKind.wrap .u64 (l.length : Int)) 4).length) (by rw [bigL_len]; omega)
  have e0 : ((0 : Int) != 0) = false := rfl
  have e1 : decide ((l.length : Int) > 65536) = false := decide_eq_false (by omega)
  simp only [d24x2, d25, lt, e0, e1, Bool.false_eq_true, if_false, e, Option.bind_some, f, Bool.and_self, if_true, enc32]
theorem flat64_len : ∀ l : List Int, (l.flatMap enc64).length = 8 * l.length
  | [] => rfl
  | x :: l => by rw [List.flatMap_cons, List.length_append, enc64_len, flat64_len l, List.length_cons]; omega
theorem encL_len (l : List Int) : (encL l).length = 4 + 8 * l.length := by
  rw [encL, List.length_append, enc32_len, flat64_len]

theorem pl_loop (k0 : Nat) (hk0 : 8 < k0) (l : List Int) (hl : l.length ≤ 4194316) : ∀ (m i k : Nat) (w : List Int), i + m = l.length → m < k → w.length + 8 * m ≤ 140737488355000 →
    loopN (d28_L3 k0 d28_K1) k (((w, (0, ())), ()), ((i : Int), ((), (l, ((l.length : Int), ()))))) = some ((), ((w ++ (l.drop i).flatMap enc64, (0, ())), ())) := by
  intro m
  induction m with
  | zero =>
    intro i k w hi hk hw
    obtain ⟨k, rfl⟩ : ∃ k', k = k' + 1 := ⟨k - 1, by omega⟩
    have : l.drop i = [] := List.drop_eq_nil_of_le (by omega)
    simp only [loopN, d28_L3, lt, dnlt (show l.length ≤ i by omega), Bool.false_eq_true, if_false, d28_K1, this, List.flatMap_nil, List.append_nil]
  | succ m ih =>
    intro i k w hi hk hw
    obtain ⟨k, rfl⟩ : ∃ k', k = k' + 1 := ⟨k - 1, by omega⟩
    have h1 : i < l.length := by omega
    have hg : l.getD i 0 = l[i] := by
      rw [List.getD_eq_getElem?_getD, List.getElem?_eq_getElem h1]; rfl
    have e0 : ((0 : Int) != 0) = false := rfl
    have := ih (i + 1) k (w ++ enc64 l[i]) (by omega) (by omega) (by rw [List.length_append, enc64_len]; omega)
    refine Eq.trans ?_ (this.trans ?_)
    · simp only [loopN, d28_L3, lt, shr, dlt h1, dge0, Bool.and_self, if_true, Int.toNat_natCast, e0, Bool.false_eq_true, if_false, hg, w64 k0 hk0 w l[i] (by omega), Option.bind_some, d28_K2, wr1 (show i < 4611686018427387904 by omega)]
    · rw [List.drop_eq_getElem_cons h1, List.flatMap_cons, List.append_assoc]
theorem pl_w (k : Nat) (hk : 4200000 < k) (w l : List Int) (hl : l.length ≤ 4194304) (hw : w.length ≤ 140737400000000) : d28 k ((w, (0, ())), (l, (4194316, ((), ())))) = some ((), ((w ++ encL l, (0, ())), ())) := by
  have e := w32 k (by omega) w l (by omega) (by omega)
  have := pl_loop k (by omega) l (by omega) l.length 0 k (w ++ enc32 l.length) (by omega) (by omega) (by rw [List.length_append, enc32_len]; omega)
  simp only [d28, lt, shr, e, Option.bind_some]
  refine Eq.trans this ?_
  rw [List.drop_zero, List.append_assoc, encL]
theorem put_w (k : Nat) (hk : 4200000 < k) (w : List Int) (x : IN) (hl : (encI x).length ≤ 4194304) (hw : w.length ≤ 140737300000000) : d11 k ((w, (0, ())), (x, ())) = some ((), ((w ++ encI x, (0, ())), ())) := by
  have hl' : x.2.2.2.1.length ≤ 4194304 := by
    simp only [encI, List.length_append, encL_len] at hl; omega
  have e1 := w64 k (by omega) w x.1 (by omega)
  have e2 := w64 k (by omega) (w ++ enc64 x.1) x.2.1 (by rw [List.length_append, enc64_len]; omega)
  have e3 := w64 k (by omega) (w ++ enc64 x.1 ++ enc64 x.2.1) x.2.2.1 (by simp only [List.length_append, enc64_len]; omega)
  have e4 := pl_w k hk (w ++ enc64 x.1 ++ enc64 x.2.1 ++ enc64 x.2.2.1) x.2.2.2.1 hl' (by simp only [List.length_append, enc64_len]; omega)
  simp only [d11, e1, e2, e3, e4, Option.bind_some]
  simp only [encI, List.append_assoc]
theorem pi_loop (k0 : Nat) (hk0 : 4200000 < k0) (l : List IN) (hl : l.length ≤ 65536) : ∀ (m i k : Nat) (w : List Int), i + m = l.length → m < k → w.length + ((l.drop i).flatMap encI).length ≤ 4194304 →
    loopN (d10_L3 k0 d10_K1) k (((w, (0, ())), ()), ((i : Int), ((), (l, ((l.length : Int), ()))))) = some ((), ((w ++ (l.drop i).flatMap encI, (0, ())), ())) := by
  intro m
  induction m with
  | zero =>
    intro i k w hi hk hw
    obtain ⟨k, rfl⟩ : ∃ k', k = k' + 1 := ⟨k - 1, by omega⟩
    have : l.drop i = [] := List.drop_eq_nil_of_le (by omega)
    simp only [loopN, d10_L3, lt, dnlt (show l.length ≤ i by omega), Bool.false_eq_true, if_false, d10_K1, this, List.flatMap_nil, List.append_nil]
  | succ m ih =>
    intro i k w hi hk hw
    obtain ⟨k, rfl⟩ : ∃ k', k = k' + 1 := ⟨k - 1, by omega⟩
    have h1 : i < l.length := by omega
    have hg : l.getD i ((0 : Int), ((0 : Int), ((0 : Int), (([] : List Int), ())))) = l[i] := by
      rw [List.getD_eq_getElem?_getD, List.getElem?_eq_getElem h1]; rfl
    have e0 : ((0 : Int) != 0) = false := rfl
    have hw' := hw
    rw [List.drop_eq_getElem_cons h1, List.flatMap_cons, List.length_append] at hw'
    have := ih (i + 1) k (w ++ encI l[i]) (by omega) (by omega) (by rw [List.length_append]; omega)
    refine Eq.trans ?_ (this.trans ?_)
    · simp only [loopN, d10_L3, lt, shr, dlt h1, dge0, Bool.and_self, if_true, Int.toNat_natCast, e0, Bool.false_eq_true, if_false, hg, put_w k0 hk0 w l[i] (by omega) (by omega), Option.bind_some, d10_K2, wr1 (show i < 4611686018427387904 by omega)]
    · rw [List.drop_eq_getElem_cons h1, List.flatMap_cons, List.append_assoc]
theorem pi_w (k : Nat) (hk : 4200000 < k) (l : List IN) (hl : l.length ≤ 65536) (hL : (encIs l).length ≤ 4194304) : d10 k (([], (0, ())), (l, (65536, ((), ())))) = some ((), ((encIs l, (0, ())), ())) := by
  have e := w32i k (by omega) [] l (by simp) hl
  rw [encIs, List.length_append] at hL
  have := pi_loop k hk l hl l.length 0 k ([] ++ enc32 l.length) (by omega) (by omega) (by rw [List.nil_append, List.drop_zero]; omega)
  simp only [d10, lt, shr, e, Option.bind_some]
  refine Eq.trans this ?_
  rw [List.drop_zero, List.nil_append, encIs]

/-! ### Decode, and Encode of what it tells -/
theorem decode_ok (k : Nat) (hk : 4200000 < k) (b : List Int) (hB : ∀ y ∈ b, isB y) : ∃ l e, d7 k (b, ()) = some ((l, (e, ())), ()) ∧ ((l = [] ∧ (e = 1 ∨ e = 20)) ∨ (e = 0 ∧ d4 k (l, ()) = some ((b, (0, ())), ()))) := by
  obtain ⟨r, e, h40, h⟩ := unseal_ok k hk b hB
  rcases h with rfl | rfl | ⟨rfl, hr, hrB, h50⟩
  · exact ⟨[], 1, by simp only [d7, lt, h40, Option.bind_some]; rfl, .inl ⟨rfl, .inl rfl⟩⟩
  · exact ⟨[], 20, by simp only [d7, lt, h40, Option.bind_some]; rfl, .inl ⟨rfl, .inr rfl⟩⟩
  have e0 : ((0 : Int) != 0) = false := rfl
  have h41 : d18 k (r, ()) = some (((r, (0, ())), ()), ()) := by
    have hc : r.length ≤ 140737488355328 := by omega
    simp only [d18, d29, if_pos hc, Option.bind_some]
  obtain ⟨a, b', f', h43, hB', hL', hr'⟩ := gi_rd k hk r 0 hrB hr
  have tail : ∀ (a42 : Int) (s42 : RS), d19 k ((r, (0, ())), ()) = some ((a42, ()), (s42, ())) → ∃ l e, d7 k (b, ()) = some ((l, (e, ())), ()) ∧ ((l = [] ∧ (e = 1 ∨ e = 20)) ∨ (e = 0 ∧ d4 k (l, ()) = some ((b, (0, ())), ()))) := by
    intro a42 s42 h42
    by_cases h1 : a42 > 65536
    · have d1 : decide (a42 > 65536) = true := decide_eq_true h1
      exact ⟨[], 1, by simp only [d7, lt, h40, h41, h42, Option.bind_some, e0, d1, Bool.false_eq_true, if_false, if_true], .inl ⟨rfl, .inl rfl⟩⟩
    have d1 : decide (a42 > 65536) = false := decide_eq_false h1
    by_cases hf : f' = 0
    · subst hf
      obtain ⟨-, hle, hb⟩ := hr' rfl
      have ez : ((0 : Int) == 0) = true := rfl
      by_cases hb0 : b' = []
      · subst hb0
        have hen : r = encIs a := by rw [hb, List.append_nil]
        have h45 : d22 k (([], (0, ())), ()) = some ((0, ()), ()) := rfl
        refine ⟨a, 0, by simp only [d7, lt, h40, h41, h42, h43, h45, Option.bind_some, e0, d1, Bool.false_eq_true, if_false], .inr ⟨rfl, ?_⟩⟩
        have h47 := pi_w k hk a hle (by rw [← hen]; exact hr)
        rw [← hen] at h47
        have hc : r.length ≤ 140737488355328 := by omega
        simp only [d4, d9, lt, Option.bind_some, h47, d12, e0, Bool.false_eq_true, if_false, d29, if_pos hc, h50]
      · have d4 : decide (((b'.length : Nat) : Int) > 0) = true := decide_eq_true (by
          have := List.length_pos_iff.2 hb0
          omega)
        have e20 : ((20 : Int) != 0) = true := rfl
        exact ⟨[], 20, by simp only [d7, d22, lt, h40, h41, h42, h43, Option.bind_some, e0, d1, ez, d4, e20, Bool.false_eq_true, if_false, if_true], .inl ⟨rfl, .inr rfl⟩⟩
    · have e1 : (f' == 0) = false := beq_false_of_ne hf
      have e2 : (f' != 0) = true := by rw [bne, e1]; rfl
      exact ⟨[], 20, by simp only [d7, d22, lt, h40, h41, h42, h43, Option.bind_some, e0, d1, e1, e2, Bool.false_eq_true, if_false, if_true], .inl ⟨rfl, .inr rfl⟩⟩
  rcases u32_rd k (by omega) r hrB with ⟨a42, h42⟩ | ⟨n, hn, h42, _⟩
  · exact tail _ _ h42
  · exact tail _ _ h42
end Go.Proofs.YticemfakkgebhaaGreatDoor.L
