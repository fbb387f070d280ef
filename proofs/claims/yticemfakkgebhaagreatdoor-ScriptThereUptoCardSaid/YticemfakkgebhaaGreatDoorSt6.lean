import Derived.Test.YticemfakkgebhaaGreatDoorSt5
namespace Go.Proofs.YticemfakkgebhaaGreatDoor.L
open Go Go.Lift
set_option linter.unusedVariables false
set_option linter.unusedSimpArgs false
set_option maxRecDepth 100000

/-! ### the other half: what was told is read -/
theorem seal_form (k : Nat) (hk : 4200000 < k) (body : List Int) (hb : body.length ≤ 4194304) (hB : ∀ y ∈ body, isB y) : ∃ s A c4 : List Int, s = A ++ body ++ c4 ∧ A.length = 8 ∧ c4.length = 4 ∧ (∀ y ∈ s, isB y) ∧ d13 k (3, (body, ())) = some ((s, (0, ())), ()) := by
  have hl7 := bigL_len (IntKind.wrap .u64 ((body.length : Nat) : Int)) 4
  obtain ⟨c, hc⟩ := sum_ok ([66, 75, 3, 1] ++ bigL (IntKind.wrap .u64 ((body.length : Nat) : Int)) 4 ++ body) k (by omega) (by simp [hl7]; omega) (by simp [hl7]; omega)
  have e0 : decide (((body.length : Nat) : Int) > 4194304) = false := decide_eq_false (by omega)
  have e1 := big_eq (IntKind.wrap .u64 ((body.length : Nat) : Int)) (n := 4) (by omega) k (by omega)
  have f1 : appFits 4 4 1 = true := rfl
  have f2 : appFits 8 body.length 1 = true := by simp [appFits]; omega
  have f3 : appFits (8 + body.length) 4 1 = true := by simp [appFits]; omega
  have g1 : decide ((8 : Int) < 0) = false := rfl
  have g2 : decide ((16 : Int) < 0) = false := rfl
  have g3 : decide ((24 : Int) < 0) = false := rfl
  have l1 : ([66, 75, 3, 1] ++ bigL (IntKind.wrap .u64 ((body.length : Nat) : Int)) 4 : List Int).length = 8 := by simp [hl7]
  have l2 : ([66, 75, 3, 1] ++ bigL (IntKind.wrap .u64 ((body.length : Nat) : Int)) 4 ++ body : List Int).length = 8 + body.length := by rw [List.length_append, l1]
  have e1' : d26 k (IntKind.wrap .u64 ((body.length : Nat) : Int), ((4 : Int), ())) = some ((bigL (IntKind.wrap .u64 ((body.length : Nat) : Int)) 4, ()), ()) := e1
  refine ⟨_, [66, 75, 3, 1] ++ bigL (IntKind.wrap .u64 ((body.length : Nat) : Int)) 4, _, rfl, l1, ?_, ?_, by
    simp only [d13, lt, e0, Bool.false_eq_true, if_false, e1', Option.bind_some, List.length_cons, List.length_nil, Nat.zero_add, hl7, f1, if_true, l1, f2, hc, g1, g2, g3, Bool.not_false, l2, f3]
    rfl⟩
  · rfl
  intro y hy
  rcases List.mem_append.1 hy with hy | hy
  · rcases List.mem_append.1 hy with hy | hy
    · rcases List.mem_append.1 hy with hy | hy
      · simp only [List.mem_cons, List.mem_nil_iff, or_false] at hy
        rcases hy with rfl | rfl | rfl | rfl <;> exact ⟨by decide, by decide⟩
      · exact bigL_B _ _ y hy
    · exact hB y hy
  · simp only [List.mem_cons, List.mem_nil_iff, or_false] at hy
    rcases hy with rfl | rfl | rfl | rfl <;> exact wrap8 _

theorem unseal_sealed (k : Nat) (hk : 4200000 < k) (body s A c4 : List Int) (hs : s = A ++ body ++ c4) (hA : A.length = 8) (hc : c4.length = 4) (hB : ∀ y ∈ s, isB y) (hb : body.length ≤ 4194304) (h50 : d13 k (3, (body, ())) = some ((s, (0, ())), ())) :
    d17 k (3, (s, ())) = some ((body, (0, ())), ()) := by
  have hl : s.length = 12 + body.length := by rw [hs]; simp [hA, hc]; omega
  have e1 : decide (((s.length : Nat) : Int) > 4194316) = false := decide_eq_false (by omega)
  have e2 : decide (((s.length : Nat) : Int) < 12) = false := decide_eq_false (by omega)
  have e3 : IntKind.wrap .i64 (((s.length : Nat) : Int) - 4) = ((s.length - 4 : Nat) : Int) := by
    simp [IntKind.wrap, IntKind.signed, IntKind.bits]; omega
  have t8 : Int.toNat (8 : Int) = 8 := rfl
  have e4 : decide ((0 : Int) ≤ 8) = true := rfl
  have e5 : decide (8 ≤ s.length - 4) = true := decide_eq_true (by omega)
  have e6 : decide (s.length - 4 ≤ s.length) = true := decide_eq_true (by omega)
  have hbody : List.drop 8 (List.take (s.length - 4) s) = body := by
    have : s.length - 4 = (A ++ body).length := by rw [hl, List.length_append, hA]; omega
    rw [this, hs, List.take_left, ← hA, List.drop_left]
  have q := (equal_iff hB hB).2 rfl
  have hcl : body.length ≤ 140737488355328 := by omega
  simp only [d17, lt, shr, e1, e2, if_true, Bool.false_eq_true, if_false, d17_K1, e3, t8, e4, dge0, Int.toNat_natCast, e5, e6, Bool.and_self, hbody, h50, Option.bind_some, d39, q, Bool.not_true, d29, if_pos hcl]

theorem bigB_range (x : Int) (n i : Nat) : isB (bigB x n i) := wrap8 _
theorem bigL_snoc (v : Int) (n : Nat) : bigL v (n + 1) = bigL (v / 256) n ++ [v % 256] := by
  have hc : isB (v % 256) := by unfold isB; omega
  have e : v = v / 256 * 256 + v % 256 := by omega
  show (List.range (n + 1)).map _ = _
  rw [List.range_succ, List.map_append]
  congr 1
  · refine List.map_congr_left fun i hi => ?_
    have := bigB_init (v := v / 256) hc (List.mem_range.1 hi)
    rw [← e] at this
    exact this
  · have := bigB_last (v := v / 256) hc n
    rw [← e] at this
    show [_] = [_]
    rw [this]
theorem val_big : ∀ (n : Nat) (v : Int), 0 ≤ v ∧ v < 256 ^ n → val (bigL v n) = v
  | 0, v, h => by
    have : v = 0 := by simp at h; omega
    subst this; rfl
  | n + 1, v, h => by
    have h' : 0 ≤ v / 256 ∧ v / 256 < 256 ^ n := by
      rw [Int.pow_succ] at h
      generalize (256 : Int) ^ n = p at h ⊢
      omega
    rw [bigL_snoc, val, valF_snoc]
    have := val_big n _ h'
    rw [val] at this
    rw [this]; omega
theorem bigL_isB (x : Int) (n : Nat) : ∀ y ∈ bigL x n, isB y := fun y hy => by
  obtain ⟨i, _, rfl⟩ := List.mem_map.1 hy
  exact bigB_range _ _ _
theorem i64_back (k : Nat) (hk : 8 < k) (x : Int) (hx : -9223372036854775808 ≤ x ∧ x ≤ 9223372036854775807) (rest : List Int) (hr : ∀ y ∈ rest, isB y) : d42 k ((enc64 x ++ rest, (0, ())), ()) = some ((x, ()), ((rest, (0, ())), ())) := by
  have hB : ∀ y ∈ enc64 x ++ rest, isB y := fun y hy => by
    rcases List.mem_append.1 hy with h | h
    · exact bigL_isB _ _ y h
    · exact hr y h
  have e := number_ok k hk (enc64 x ++ rest) hB 8 (by omega) (by rw [List.length_append, enc64_len]; omega)
  have e8 : ((8 : Nat) : Int) = 8 := rfl
  have t8 : List.take 8 (enc64 x ++ rest) = enc64 x := by rw [← enc64_len x, List.take_left]
  have d8 : List.drop 8 (enc64 x ++ rest) = rest := by rw [← enc64_len x, List.drop_left]
  have hw : 0 ≤ IntKind.wrap .u64 x ∧ IntKind.wrap .u64 x < 256 ^ 8 := by
    simp [IntKind.wrap, IntKind.signed, IntKind.bits]; omega
  have hv : val (enc64 x) = IntKind.wrap .u64 x := val_big 8 _ hw
  have hww : IntKind.wrap .i64 (IntKind.wrap .u64 x) = x := by
    simp [IntKind.wrap, IntKind.signed, IntKind.bits]; omega
  rw [e8, t8, d8, hv] at e
  simp only [d42, e, Option.bind_some, hww]
theorem u32_back (k : Nat) (hk : 8 < k) (n : Nat) (hx : n < 4294967296) (rest : List Int) (hr : ∀ y ∈ rest, isB y) : d19 k ((enc32 n ++ rest, (0, ())), ()) = some (((n : Int), ()), ((rest, (0, ())), ())) := by
  have hB : ∀ y ∈ enc32 n ++ rest, isB y := fun y hy => by
    rcases List.mem_append.1 hy with h | h
    · exact bigL_isB _ _ y h
    · exact hr y h
  have e := number_ok k hk (enc32 n ++ rest) hB 4 (by omega) (by rw [List.length_append, enc32_len]; omega)
  have e8 : ((4 : Nat) : Int) = 4 := rfl
  have t8 : List.take 4 (enc32 n ++ rest) = enc32 n := by rw [← enc32_len n, List.take_left]
  have d8 : List.drop 4 (enc32 n ++ rest) = rest := by rw [← enc32_len n, List.drop_left]
  have w2 : IntKind.wrap .u64 (n : Int) = (n : Int) := by simp [IntKind.wrap, IntKind.signed, IntKind.bits]; omega
  have w1 : IntKind.wrap .i64 (n : Int) = (n : Int) := by simp [IntKind.wrap, IntKind.signed, IntKind.bits]; omega
  have hv : val (enc32 n) = (n : Int) := by rw [enc32, w2]; exact val_big 4 _ ⟨by omega, by simp; omega⟩
  rw [e8, t8, d8, hv] at e
  simp only [d19, e, Option.bind_some, w1]
end Go.Proofs.YticemfakkgebhaaGreatDoor.L
