import Derived.Test.YtledeaknnihlmaaDoorFlM4
import Derived.Test.YtledeaknnihlmaaDoorFlP
namespace Go.Proofs.YtledeaknnihlmaaDoor.L
open Go Go.Lift
set_option linter.unusedVariables false
set_option linter.unusedSimpArgs false
set_option maxRecDepth 100000

/-! ### lists are equal to themselves -/
theorem allEq_refl {α : Type} {f : α → α → Bool} (hf : ∀ x, f x x = true) : ∀ l : List α, allEq f l l = true
  | [] => rfl
  | x :: l => by simp [allEq, hf, allEq_refl hf l]
theorem e47_loop (K : Unit × Unit → Option ((Bool × Unit) × Unit)) (l : List Int) (hb : l.length < 4611686018427387904) : ∀ m i k, i + m = l.length → m < k →
    loopN (d47_L2 K) k ((), ((i : Int), (l, (l, ((l.length : Int), ()))))) = K ((), ()) := by
  intro m
  induction m with
  | zero =>
    intro i k hi hk
    obtain ⟨k, rfl⟩ : ∃ k', k = k' + 1 := ⟨k - 1, by omega⟩
    simp only [loopN, d47_L2, lt, dnlt (show l.length ≤ i by omega), Bool.false_eq_true, if_false]
  | succ m ih =>
    intro i k hi hk
    obtain ⟨k, rfl⟩ : ∃ k', k = k' + 1 := ⟨k - 1, by omega⟩
    have h1 : i < l.length := by omega
    refine Eq.trans ?_ (ih (i + 1) k (by omega) (by omega))
    simp only [loopN, d47_L2, lt, shr, dlt h1, dge0, Bool.and_self, if_true, Int.toNat_natCast, bne_self_eq_false, beq_self_eq_true, Bool.not_true, Bool.false_eq_true, if_false, d47_K1, wr1 (show i < 4611686018427387904 by omega)]
theorem e47 (l : List Int) (hb : l.length < 4611686018427387904) (k : Nat) (hk : l.length < k) : d47 k (l, (l, ())) = some ((true, ()), ()) := by
  have := e47_loop (fun x5 => some ((true, ()), ())) l hb l.length 0 k (by omega) hk
  simp only [d47, lt, shr, bne_self_eq_false, Bool.false_eq_true, if_false]
  exact this
theorem e61_loop (K : Unit × Unit → Option ((Bool × Unit) × Unit)) (l : List Int) (hb : l.length < 4611686018427387904) : ∀ m i k, i + m = l.length → m < k →
    loopN (d61_L2 K) k ((), ((i : Int), (l, (l, ((l.length : Int), ()))))) = K ((), ()) := by
  intro m
  induction m with
  | zero =>
    intro i k hi hk
    obtain ⟨k, rfl⟩ : ∃ k', k = k' + 1 := ⟨k - 1, by omega⟩
    simp only [loopN, d61_L2, lt, dnlt (show l.length ≤ i by omega), Bool.false_eq_true, if_false]
  | succ m ih =>
    intro i k hi hk
    obtain ⟨k, rfl⟩ : ∃ k', k = k' + 1 := ⟨k - 1, by omega⟩
    have h1 : i < l.length := by omega
    refine Eq.trans ?_ (ih (i + 1) k (by omega) (by omega))
    simp only [loopN, d61_L2, lt, shr, dlt h1, dge0, Bool.and_self, if_true, Int.toNat_natCast, bne_self_eq_false, beq_self_eq_true, Bool.not_true, Bool.false_eq_true, if_false, d61_K1, wr1 (show i < 4611686018427387904 by omega)]
theorem e61 (l : List Int) (hb : l.length < 4611686018427387904) (k : Nat) (hk : l.length < k) : d61 k (l, (l, ())) = some ((true, ()), ()) := by
  have := e61_loop (fun x5 => some ((true, ()), ())) l hb l.length 0 k (by omega) hk
  simp only [d61, lt, shr, bne_self_eq_false, Bool.false_eq_true, if_false]
  exact this
theorem e62_loop (K : Unit × Unit → Option ((Bool × Unit) × Unit)) (l : List (Int × (Int × (Int × (Int × (Int × Unit)))))) (hb : l.length < 4611686018427387904) : ∀ m i k, i + m = l.length → m < k →
    loopN (d62_L2 K) k ((), ((i : Int), (l, (l, ((l.length : Int), ()))))) = K ((), ()) := by
  intro m
  induction m with
  | zero =>
    intro i k hi hk
    obtain ⟨k, rfl⟩ : ∃ k', k = k' + 1 := ⟨k - 1, by omega⟩
    simp only [loopN, d62_L2, lt, dnlt (show l.length ≤ i by omega), Bool.false_eq_true, if_false]
  | succ m ih =>
    intro i k hi hk
    obtain ⟨k, rfl⟩ : ∃ k', k = k' + 1 := ⟨k - 1, by omega⟩
    have h1 : i < l.length := by omega
    refine Eq.trans ?_ (ih (i + 1) k (by omega) (by omega))
    simp only [loopN, d62_L2, lt, shr, dlt h1, dge0, Bool.and_self, if_true, Int.toNat_natCast, bne_self_eq_false, beq_self_eq_true, Bool.not_true, Bool.false_eq_true, if_false, d62_K1, wr1 (show i < 4611686018427387904 by omega)]
theorem e62 (l : List (Int × (Int × (Int × (Int × (Int × Unit)))))) (hb : l.length < 4611686018427387904) (k : Nat) (hk : l.length < k) : d62 k (l, (l, ())) = some ((true, ()), ()) := by
  have := e62_loop (fun x5 => some ((true, ()), ())) l hb l.length 0 k (by omega) hk
  simp only [d62, lt, shr, bne_self_eq_false, Bool.false_eq_true, if_false]
  exact this
theorem e63_loop (K : Unit × Unit → Option ((Bool × Unit) × Unit)) (l : List (Int × (Int × (Int × (Int × (Int × (Bool × Unit))))))) (hb : l.length < 4611686018427387904) : ∀ m i k, i + m = l.length → m < k →
    loopN (d63_L2 K) k ((), ((i : Int), (l, (l, ((l.length : Int), ()))))) = K ((), ()) := by
  intro m
  induction m with
  | zero =>
    intro i k hi hk
    obtain ⟨k, rfl⟩ : ∃ k', k = k' + 1 := ⟨k - 1, by omega⟩
    simp only [loopN, d63_L2, lt, dnlt (show l.length ≤ i by omega), Bool.false_eq_true, if_false]
  | succ m ih =>
    intro i k hi hk
    obtain ⟨k, rfl⟩ : ∃ k', k = k' + 1 := ⟨k - 1, by omega⟩
    have h1 : i < l.length := by omega
    refine Eq.trans ?_ (ih (i + 1) k (by omega) (by omega))
    simp only [loopN, d63_L2, lt, shr, dlt h1, dge0, Bool.and_self, if_true, Int.toNat_natCast, bne_self_eq_false, beq_self_eq_true, Bool.not_true, Bool.false_eq_true, if_false, d63_K1, wr1 (show i < 4611686018427387904 by omega)]
theorem e63 (l : List (Int × (Int × (Int × (Int × (Int × (Bool × Unit))))))) (hb : l.length < 4611686018427387904) (k : Nat) (hk : l.length < k) : d63 k (l, (l, ())) = some ((true, ()), ()) := by
  have := e63_loop (fun x5 => some ((true, ()), ())) l hb l.length 0 k (by omega) hk
  simp only [d63, lt, shr, bne_self_eq_false, Bool.false_eq_true, if_false]
  exact this
theorem e64_loop (K : Unit × Unit → Option ((Bool × Unit) × Unit)) (l : List (Int × (Int × Unit))) (hb : l.length < 4611686018427387904) : ∀ m i k, i + m = l.length → m < k →
    loopN (d64_L2 K) k ((), ((i : Int), (l, (l, ((l.length : Int), ()))))) = K ((), ()) := by
  intro m
  induction m with
  | zero =>
    intro i k hi hk
    obtain ⟨k, rfl⟩ : ∃ k', k = k' + 1 := ⟨k - 1, by omega⟩
    simp only [loopN, d64_L2, lt, dnlt (show l.length ≤ i by omega), Bool.false_eq_true, if_false]
  | succ m ih =>
    intro i k hi hk
    obtain ⟨k, rfl⟩ : ∃ k', k = k' + 1 := ⟨k - 1, by omega⟩
    have h1 : i < l.length := by omega
    refine Eq.trans ?_ (ih (i + 1) k (by omega) (by omega))
    simp only [loopN, d64_L2, lt, shr, dlt h1, dge0, Bool.and_self, if_true, Int.toNat_natCast, bne_self_eq_false, beq_self_eq_true, Bool.not_true, Bool.false_eq_true, if_false, d64_K1, wr1 (show i < 4611686018427387904 by omega)]
theorem e64 (l : List (Int × (Int × Unit))) (hb : l.length < 4611686018427387904) (k : Nat) (hk : l.length < k) : d64 k (l, (l, ())) = some ((true, ()), ()) := by
  have := e64_loop (fun x5 => some ((true, ()), ())) l hb l.length 0 k (by omega) hk
  simp only [d64, lt, shr, bne_self_eq_false, Bool.false_eq_true, if_false]
  exact this
theorem e65_loop (K : Unit × Unit → Option ((Bool × Unit) × Unit)) (l : List Bool) (hb : l.length < 4611686018427387904) : ∀ m i k, i + m = l.length → m < k →
    loopN (d65_L2 K) k ((), ((i : Int), (l, (l, ((l.length : Int), ()))))) = K ((), ()) := by
  intro m
  induction m with
  | zero =>
    intro i k hi hk
    obtain ⟨k, rfl⟩ : ∃ k', k = k' + 1 := ⟨k - 1, by omega⟩
    simp only [loopN, d65_L2, lt, dnlt (show l.length ≤ i by omega), Bool.false_eq_true, if_false]
  | succ m ih =>
    intro i k hi hk
    obtain ⟨k, rfl⟩ : ∃ k', k = k' + 1 := ⟨k - 1, by omega⟩
    have h1 : i < l.length := by omega
    refine Eq.trans ?_ (ih (i + 1) k (by omega) (by omega))
    simp only [loopN, d65_L2, lt, shr, dlt h1, dge0, Bool.and_self, if_true, Int.toNat_natCast, bne_self_eq_false, beq_self_eq_true, Bool.not_true, Bool.false_eq_true, if_false, d65_K1, wr1 (show i < 4611686018427387904 by omega)]
theorem e65 (l : List Bool) (hb : l.length < 4611686018427387904) (k : Nat) (hk : l.length < k) : d65 k (l, (l, ())) = some ((true, ()), ()) := by
  have := e65_loop (fun x5 => some ((true, ()), ())) l hb l.length 0 k (by omega) hk
  simp only [d65, lt, shr, bne_self_eq_false, Bool.false_eq_true, if_false]
  exact this
theorem e66_loop (K : Unit × Unit → Option ((Bool × Unit) × Unit)) (l : List (Int × (Int × Unit))) (hb : l.length < 4611686018427387904) : ∀ m i k, i + m = l.length → m < k →
    loopN (d66_L2 K) k ((), ((i : Int), (l, (l, ((l.length : Int), ()))))) = K ((), ()) := by
  intro m
  induction m with
  | zero =>
    intro i k hi hk
    obtain ⟨k, rfl⟩ : ∃ k', k = k' + 1 := ⟨k - 1, by omega⟩
    simp only [loopN, d66_L2, lt, dnlt (show l.length ≤ i by omega), Bool.false_eq_true, if_false]
  | succ m ih =>
    intro i k hi hk
    obtain ⟨k, rfl⟩ : ∃ k', k = k' + 1 := ⟨k - 1, by omega⟩
    have h1 : i < l.length := by omega
    refine Eq.trans ?_ (ih (i + 1) k (by omega) (by omega))
    simp only [loopN, d66_L2, lt, shr, dlt h1, dge0, Bool.and_self, if_true, Int.toNat_natCast, bne_self_eq_false, beq_self_eq_true, Bool.not_true, Bool.false_eq_true, if_false, d66_K1, wr1 (show i < 4611686018427387904 by omega)]
theorem e66 (l : List (Int × (Int × Unit))) (hb : l.length < 4611686018427387904) (k : Nat) (hk : l.length < k) : d66 k (l, (l, ())) = some ((true, ()), ()) := by
  have := e66_loop (fun x5 => some ((true, ()), ())) l hb l.length 0 k (by omega) hk
  simp only [d66, lt, shr, bne_self_eq_false, Bool.false_eq_true, if_false]
  exact this
theorem e48_loop (K : Unit × Unit → Option ((Bool × Unit) × Unit)) (l : List PO) (hb : l.length < 4611686018427387904) : ∀ m i k, i + m = l.length → m < k →
    loopN (d48_L2 K) k ((), ((i : Int), (l, (l, ((l.length : Int), ()))))) = K ((), ()) := by
  intro m
  induction m with
  | zero =>
    intro i k hi hk
    obtain ⟨k, rfl⟩ : ∃ k', k = k' + 1 := ⟨k - 1, by omega⟩
    simp only [loopN, d48_L2, lt, dnlt (show l.length ≤ i by omega), Bool.false_eq_true, if_false]
  | succ m ih =>
    intro i k hi hk
    obtain ⟨k, rfl⟩ : ∃ k', k = k' + 1 := ⟨k - 1, by omega⟩
    have h1 : i < l.length := by omega
    refine Eq.trans ?_ (ih (i + 1) k (by omega) (by omega))
    simp only [loopN, d48_L2, lt, shr, dlt h1, dge0, Bool.and_self, if_true, Int.toNat_natCast, bne_self_eq_false, beq_self_eq_true, Bool.not_true, Bool.false_eq_true, if_false, d48_K1, wr1 (show i < 4611686018427387904 by omega)]
theorem e48 (l : List PO) (hb : l.length < 4611686018427387904) (k : Nat) (hk : l.length < k) : d48 k (l, (l, ())) = some ((true, ()), ()) := by
  have := e48_loop (fun x5 => some ((true, ()), ())) l hb l.length 0 k (by omega) hk
  simp only [d48, lt, shr, bne_self_eq_false, Bool.false_eq_true, if_false]
  exact this

theorem e62_ne (a b : List (Int × (Int × (Int × (Int × (Int × Unit)))))) (h : a.length ≠ b.length) (k : Nat) : d62 k (a, (b, ())) = some ((false, ()), ()) := by
  have : (((a.length : Nat) : Int) != ((b.length : Nat) : Int)) = true := by
    rw [bne_iff_ne]; omega
  simp only [d62, lt, this, if_true]
theorem e44 (k : Nat) (a b : PA) (h : a.1 = b.1) : d44 k (a, (b, ())) = some ((true, ()), ()) := by
  simp only [d44, h, beq_self_eq_true, Bool.and_self]
theorem e46 (k : Nat) (hk : 70 < k) (c : CH) (hc : c.2.2.1.length ≤ 70) : d46 k (c, (c, ())) = some ((true, ()), ()) := by
  simp only [d46, lt, beq_self_eq_true, if_true, Bool.and_self, e47 c.2.2.1 (by omega) k (by omega), Option.bind_some]
theorem e43_loop (k0 : Nat) (K : Unit × Unit → Option ((Bool × Unit) × Unit)) {n : Nat} (hn : n ≤ 40) (a b : List PA) (ha : a.length = n) (hb : b.length = n) (h : ∀ i, i < n → ∀ d : PA, (a.getD i d).1 = (b.getD i d).1) : ∀ m i k, i + m = n → m < k →
    loopN (d43_L2 k0 K) k ((), ((i : Int), ((), (b, (a, ((n : Int), ())))))) = K ((), ()) := by
  intro m
  induction m with
  | zero =>
    intro i k hi hk
    obtain ⟨k, rfl⟩ : ∃ k', k = k' + 1 := ⟨k - 1, by omega⟩
    simp only [loopN, d43_L2, lt, dnlt (show n ≤ i by omega), Bool.false_eq_true, if_false]
  | succ m ih =>
    intro i k hi hk
    obtain ⟨k, rfl⟩ : ∃ k', k = k' + 1 := ⟨k - 1, by omega⟩
    have h1 : i < n := by omega
    refine Eq.trans ?_ (ih (i + 1) k (by omega) (by omega))
    simp only [loopN, d43_L2, lt, shr, dlt h1, dge0, ha, hb, Bool.and_self, if_true, Int.toNat_natCast, e44 k0 _ _ (h i h1 _), Option.bind_some, Bool.not_true, Bool.false_eq_true, if_false, d43_K1, wr1 (show i < 4611686018427387904 by omega)]
theorem e43 (k : Nat) {n : Nat} (hn : n ≤ 40) (hk : 40 < k) (a b : List PA) (ha : a.length = n) (hb : b.length = n) (h : ∀ i, i < n → ∀ d : PA, (a.getD i d).1 = (b.getD i d).1) : d43 k (a, (b, ((), ()))) = some ((true, ()), ()) := by
  have := e43_loop k (fun x5 => some ((true, ()), ())) hn a b ha hb h n 0 k (by omega) (by omega)
  simp only [d43, lt, shr, ha, hb, bne_self_eq_false, Bool.false_eq_true, if_false]
  exact this
theorem e45_loop (k0 : Nat) (hk0 : 70 < k0) (K : Unit × Unit → Option ((Bool × Unit) × Unit)) (l : List CH) (hl : l.length ≤ 70) (hc : ∀ c ∈ l, c.2.2.1.length ≤ 70) : ∀ m i k, i + m = l.length → m < k →
    loopN (d45_L2 k0 K) k ((), ((i : Int), ((), (l, (l, ((l.length : Int), ())))))) = K ((), ()) := by
  intro m
  induction m with
  | zero =>
    intro i k hi hk
    obtain ⟨k, rfl⟩ : ∃ k', k = k' + 1 := ⟨k - 1, by omega⟩
    simp only [loopN, d45_L2, lt, dnlt (show l.length ≤ i by omega), Bool.false_eq_true, if_false]
  | succ m ih =>
    intro i k hi hk
    obtain ⟨k, rfl⟩ : ∃ k', k = k' + 1 := ⟨k - 1, by omega⟩
    have h1 : i < l.length := by omega
    have hm : l.getD i ((0 : Int), ((0 : Int), (([] : List Int), ((0 : Int), ((0 : Int), ()))))) ∈ l := by
      rw [List.getD_eq_getElem?_getD, List.getElem?_eq_getElem h1]; exact List.getElem_mem h1
    refine Eq.trans ?_ (ih (i + 1) k (by omega) (by omega))
    simp only [loopN, d45_L2, lt, shr, dlt h1, dge0, Bool.and_self, if_true, Int.toNat_natCast, e46 k0 hk0 _ (hc _ hm), Option.bind_some, Bool.not_true, Bool.false_eq_true, if_false, d45_K1, wr1 (show i < 4611686018427387904 by omega)]
theorem e45 (k : Nat) (hk : 70 < k) (l : List CH) (hl : l.length ≤ 70) (hc : ∀ c ∈ l, c.2.2.1.length ≤ 70) : d45 k (l, (l, ((), ()))) = some ((true, ()), ()) := by
  have := e45_loop k hk (fun x5 => some ((true, ()), ())) l hl hc l.length 0 k (by omega) (by omega)
  simp only [d45, lt, shr, bne_self_eq_false, Bool.false_eq_true, if_false]
  exact this

/-- A partition's lists may be gone through. -/
structure PB (k : Nat) (p : PA) : Prop where
  fi : p.2.2.2.1.length < k ∧ p.2.2.2.1.length < 4611686018427387904
  fc : p.2.2.2.2.1.length < k ∧ p.2.2.2.2.1.length * 8 ≤ 140737488351232
  fp : p.2.2.2.2.2.1.length < k ∧ p.2.2.2.2.2.1.length < 4611686018427387904
  fs : p.2.2.2.2.2.2.2.2.1.length < k ∧ p.2.2.2.2.2.2.2.2.1.length < 4611686018427387904
  fe : p.2.2.2.2.2.2.2.2.2.1.length < k ∧ p.2.2.2.2.2.2.2.2.2.1.length < 4611686018427387904
  fb : p.2.2.2.2.2.2.2.2.2.2.1.length < k ∧ p.2.2.2.2.2.2.2.2.2.2.1.length < 4611686018427387904
theorem e49 {k : Nat} {p : PA} (h : PB k p) : d49 k (p, (p, ())) = some ((true, ()), ()) := by
  have hh : allEq (fun (x7 : Int) => fun (x8 : Int) => (x7 == x8)) p.2.2.2.2.2.2.2.1 p.2.2.2.2.2.2.2.1 = true := allEq_refl (fun x => beq_self_eq_true x) _
  simp only [d49, lt, beq_self_eq_true, if_true, Bool.and_self, hh, e61 _ h.fi.2 k h.fi.1, e62 _ (by have := h.fc.2; omega) k h.fc.1, e63 _ h.fp.2 k h.fp.1, e64 _ h.fs.2 k h.fs.1, e65 _ h.fe.2 k h.fe.1, e66 _ h.fb.2 k h.fb.1, Option.bind_some]
theorem e49_ne {k : Nat} {p : PA} (h : PB k p) (c : List (Int × (Int × (Int × (Int × (Int × Unit)))))) (hc : p.2.2.2.2.1.length ≠ c.length) : d49 k (p, ((p.1, (p.2.1, (p.2.2.1, (p.2.2.2.1, (c, p.2.2.2.2.2))))), ())) = some ((false, ()), ()) ∧ d49 k ((p.1, (p.2.1, (p.2.2.1, (p.2.2.2.1, (c, p.2.2.2.2.2))))), (p, ())) = some ((false, ()), ()) := by
  have hh : allEq (fun (x7 : Int) => fun (x8 : Int) => (x7 == x8)) p.2.2.2.2.2.2.2.1 p.2.2.2.2.2.2.2.1 = true := allEq_refl (fun x => beq_self_eq_true x) _
  constructor
  · simp only [d49, lt, beq_self_eq_true, if_true, Bool.and_self, hh, e61 _ h.fi.2 k h.fi.1, e62_ne _ _ hc k, Option.bind_some, Bool.false_eq_true, if_false, Bool.false_and, Bool.false_beq, Bool.not_true]
  · simp only [d49, lt, beq_self_eq_true, if_true, Bool.and_self, hh, e61 _ h.fi.2 k h.fi.1, e62_ne _ _ (fun e => hc e.symm) k, Option.bind_some, Bool.false_eq_true, if_false, Bool.false_and, Bool.false_beq, Bool.not_true]
end Go.Proofs.YtledeaknnihlmaaDoor.L
