import Derived.Test.YticemfakkgebhaaGreatDoorSt1
namespace Go.Proofs.YticemfakkgebhaaGreatDoor.L
open Go Go.Lift
set_option linter.unusedVariables false
set_option linter.unusedSimpArgs false
set_option maxRecDepth 100000

/-! ### bytes as strings -/
theorem bstr_list (ns : List Int) : (bstr ns).data.toList = ns.map fun n => UInt8.ofNat n.toNat := by
  have key : ∀ (ns : List Int) (r : ByteArray), (ns.foldl (fun r n => r.push (UInt8.ofNat n.toNat)) r).data.toList = r.data.toList ++ ns.map fun n => UInt8.ofNat n.toNat := by
    intro ns
    induction ns with
    | nil => intro r; simp
    | cons n ns ih =>
      intro r
      rw [List.foldl_cons, ih]
      have : (r.push (UInt8.ofNat n.toNat)).data = r.data.push (UInt8.ofNat n.toNat) := rfl
      rw [this]
      simp
  have := key ns ByteArray.empty
  simpa [bstr] using this
theorem bstr_inj : ∀ (a b : List Int), (∀ y ∈ a, isB y) → (∀ y ∈ b, isB y) → (a.map fun n => UInt8.ofNat n.toNat) = (b.map fun n => UInt8.ofNat n.toNat) → a = b
  | [], [], _, _, _ => rfl
  | x :: a, y :: b, ha, hb, h => by
    simp only [List.map_cons, List.cons.injEq] at h
    have h1 := congrArg UInt8.toNat h.1
    have hx := ha x (List.mem_cons_self ..)
    have hy := hb y (List.mem_cons_self ..)
    unfold isB at hx hy
    simp at h1
    have : x = y := by omega
    rw [this, bstr_inj a b (fun z hz => ha z (List.mem_cons_of_mem _ hz)) (fun z hz => hb z (List.mem_cons_of_mem _ hz)) h.2]
  | [], _ :: _, _, _, h => by cases h
  | _ :: _, [], _, _, h => by cases h
theorem equal_iff {a b : List Int} (ha : ∀ y ∈ a, isB y) (hb : ∀ y ∈ b, isB y) : (ByteArray.toList (bstr a) == ByteArray.toList (bstr b)) = true ↔ a = b := by
  rw [beq_iff_eq, ByteArray.toList_eq, ByteArray.toList_eq, bstr_list, bstr_list]
  exact ⟨bstr_inj a b ha hb, fun h => by rw [h]⟩

theorem unseal_ok (k : Nat) (hk : 4200000 < k) (b : List Int) (hB : ∀ y ∈ b, isB y) : ∃ r e, d17 k (3, (b, ())) = some ((r, (e, ())), ()) ∧ (e = 1 ∨ e = 20 ∨ (e = 0 ∧ r.length ≤ 4194304 ∧ (∀ y ∈ r, isB y) ∧ d13 k (3, (r, ())) = some ((b, (0, ())), ()))) := by
  by_cases h1 : b.length > 4194316
  · have e1 : decide (((b.length : Nat) : Int) > 4194316) = true := decide_eq_true (by omega)
    exact ⟨[], 1, by simp only [d17, lt, shr, e1, if_true], .inl rfl⟩
  have e1 : decide (((b.length : Nat) : Int) > 4194316) = false := decide_eq_false (by omega)
  by_cases h2 : b.length < 12
  · have e2 : decide (((b.length : Nat) : Int) < 12) = true := decide_eq_true (by omega)
    exact ⟨[], 20, by simp only [d17, lt, shr, e1, e2, if_true, Bool.false_eq_true, if_false], .inr (.inl rfl)⟩
  have e2 : decide (((b.length : Nat) : Int) < 12) = false := decide_eq_false (by omega)
  have e3 : IntKind.wrap .i64 (((b.length : Nat) : Int) - 4) = ((b.length - 4 : Nat) : Int) := by
    simp [IntKind.wrap, IntKind.signed, IntKind.bits]; omega
  have t8 : Int.toNat (8 : Int) = 8 := rfl
  have e4 : decide ((0 : Int) ≤ 8) = true := rfl
  have e5 : decide (8 ≤ b.length - 4) = true := decide_eq_true (by omega)
  have e6 : decide (b.length - 4 ≤ b.length) = true := decide_eq_true (by omega)
  generalize hbody : List.drop 8 (List.take (b.length - 4) b) = body
  have hlen : body.length ≤ 4194304 := by rw [← hbody, List.length_drop, List.length_take]; omega
  have hbB : ∀ y ∈ body, isB y := fun y hy => hB y (by rw [← hbody] at hy; exact List.mem_of_mem_take (List.mem_of_mem_drop hy))
  obtain ⟨s, hs, h50⟩ := seal_ok k hk body hlen hbB
  by_cases heq : s = b
  · have q := (equal_iff hs hB).2 heq
    subst heq
    refine ⟨body, 0, ?_, .inr (.inr ⟨rfl, hlen, hbB, h50⟩)⟩
    have hc : body.length ≤ 140737488355328 := by omega
    simp only [d17, lt, shr, e1, e2, if_true, Bool.false_eq_true, if_false, d17_K1, e3, t8, e4, dge0, Int.toNat_natCast, e5, e6, Bool.and_self, hbody, h50, Option.bind_some, d39, q, Bool.not_true, d29, if_pos hc]
  · have q : (ByteArray.toList (bstr s) == ByteArray.toList (bstr b)) = false := by
      cases hq : (ByteArray.toList (bstr s) == ByteArray.toList (bstr b)) with
      | false => rfl
      | true => exact absurd ((equal_iff hs hB).1 hq) heq
    exact ⟨[], 20, by simp only [d17, lt, shr, e1, e2, if_true, Bool.false_eq_true, if_false, d17_K1, e3, t8, e4, dge0, Int.toNat_natCast, e5, e6, Bool.and_self, hbody, h50, Option.bind_some, d39, q, Bool.not_false], .inr (.inl rfl)⟩

/-! ### reading -/
abbrev RS : Type := (List Int) × (Int × Unit)
def stepV (v c : Int) : Int := IntKind.wrap .u64 (((BitVec.ofInt (IntKind.bits .u64) (IntKind.wrap .u64 (v * (2 ^ (min (Int.toNat 8) (IntKind.bits .u64)))))) ||| (BitVec.ofInt (IntKind.bits .u64) (IntKind.wrap .u64 c))).toNat : Int)
theorem stepV_eq {v c : Int} (hv : 0 ≤ v ∧ v < 72057594037927936) (hc : isB c) : stepV v c = v * 256 + c := by
  unfold isB at hc
  obtain ⟨n, rfl⟩ : ∃ n : Nat, v = (n : Int) := ⟨v.toNat, by omega⟩
  obtain ⟨m, rfl⟩ : ∃ m : Nat, c = (m : Int) := ⟨c.toNat, by omega⟩
  have h1 : IntKind.wrap .u64 ((n : Int) * (2 ^ (min (Int.toNat 8) (IntKind.bits .u64)))) = ((256 * n : Nat) : Int) := by
    have : (2 : Int) ^ (min (Int.toNat 8) (IntKind.bits .u64)) = 256 := rfl
    rw [this]
    simp [IntKind.wrap, IntKind.signed, IntKind.bits]; omega
  have h2 : IntKind.wrap .u64 (m : Int) = (m : Int) := by
    simp [IntKind.wrap, IntKind.signed, IntKind.bits]; omega
  unfold stepV
  rw [h1, h2]
  have h3 : (BitVec.ofInt (IntKind.bits .u64) ((256 * n : Nat) : Int) ||| BitVec.ofInt (IntKind.bits .u64) (m : Int)).toNat = 256 * n + m := by
    rw [BitVec.toNat_or]
    have a1 : (BitVec.ofInt (IntKind.bits .u64) ((256 * n : Nat) : Int)).toNat = 256 * n := by
      rw [BitVec.ofInt_natCast, BitVec.toNat_ofNat]
      exact Nat.mod_eq_of_lt (by show 256 * n < 2 ^ 64; omega)
    have a2 : (BitVec.ofInt (IntKind.bits .u64) (m : Int)).toNat = m := by
      rw [BitVec.ofInt_natCast, BitVec.toNat_ofNat]
      exact Nat.mod_eq_of_lt (by show m < 2 ^ 64; omega)
    rw [a1, a2]
    exact (Nat.two_pow_add_eq_or_of_lt (i := 8) (show m < 2 ^ 8 by omega) n).symm
  rw [h3]
  simp [IntKind.wrap, IntKind.signed, IntKind.bits]; omega
end Go.Proofs.YticemfakkgebhaaGreatDoor.L
