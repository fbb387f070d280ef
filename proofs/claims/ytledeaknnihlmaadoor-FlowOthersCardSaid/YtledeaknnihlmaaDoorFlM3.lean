import Derived.Test.YtledeaknnihlmaaDoorFlM2
import Derived.Test.YtledeaknnihlmaaDoorFlW
namespace Go.Proofs.YtledeaknnihlmaaDoor.L
open Go Go.Lift
set_option linter.unusedVariables false
set_option linter.unusedSimpArgs false
set_option maxRecDepth 100000

/-! ### Sources -/
def srcL (R : BM) (p : Nat) : Nat → Nat → List Int
  | 0, _ => []
  | m + 1, i => if gt R i p = true then ((i + 1 : Nat) : Int) :: srcL R p m (i + 1) else srcL R p m (i + 1)
theorem srcL_len (R : BM) (p : Nat) : ∀ m i, (srcL R p m i).length ≤ m
  | 0, i => Nat.le_refl _
  | m + 1, i => by
    have := srcL_len R p m (i + 1)
    simp only [srcL]
    split
    · simp only [List.length_cons]; omega
    · omega
theorem d12_loop (K : (List Int × Unit) × Unit → Option ((List Int × Int × Unit) × Unit)) {n p : Nat} (hn : n ≤ 40) (hp : p < n) {part : Int} (hpart : part = (p : Int) + 1) {R : BM} (hR : Sq n R) : ∀ m i k (out : List Int), i + m = n → m < k → out.length ≤ i →
    loopN (d12_L4 K) k ((out, (R, ())), ((i : Int), (part, ((n : Int), ())))) = K ((out ++ srcL R p m i, ()), ()) := by
  intro m
  induction m with
  | zero =>
    intro i k out hi hk ho
    obtain ⟨k, rfl⟩ : ∃ k', k = k' + 1 := ⟨k - 1, by omega⟩
    simp only [loopN, d12_L4, lt, dnlt (show n ≤ i by omega), Bool.false_eq_true, if_false, srcL, List.append_nil]
  | succ m ih =>
    intro i k out hi hk ho
    obtain ⟨k, rfl⟩ : ∃ k', k = k' + 1 := ⟨k - 1, by omega⟩
    have h1 : i < n := by omega
    have r1 := hR.row i h1
    have ep : IntKind.wrap .i64 (part - 1) = (p : Int) := by rw [wrI (by omega) (by omega)]; omega
    have g1 : (R.getD i []).getD p false = gt R i p := rfl
    have ef : appFits out.length 1 8 = true := fit1 (by omega) (by omega)
    cases hg : gt R i p with
    | true =>
      have := ih (i + 1) k (out ++ [((i + 1 : Nat) : Int)]) (by omega) (by omega) (by simp; omega)
      simp only [srcL, hg, if_true]
      rw [show out ++ ((i + 1 : Nat) : Int) :: srcL R p m (i + 1) = out ++ [((i + 1 : Nat) : Int)] ++ srcL R p m (i + 1) by simp, ← this]
      simp only [loopN, d12_L4, lt, shr, dlt h1, nlt h1, dlt hp, nlt hp, dge0, hR.len, r1, g1, hg, ep, Bool.and_self, Bool.and_true, if_true, Int.toNat_natCast, List.length_cons, List.length_nil, Nat.zero_add, ef, d12_K3, d12_K2, wr1 (show i < 4611686018427387904 by omega)]
    | false =>
      have := ih (i + 1) k out (by omega) (by omega) (by omega)
      simp only [srcL, hg, Bool.false_eq_true, if_false]
      rw [← this]
      simp only [loopN, d12_L4, lt, shr, dlt h1, nlt h1, dlt hp, nlt hp, dge0, hR.len, r1, g1, hg, ep, Bool.and_self, Bool.and_true, Bool.false_eq_true, if_false, if_true, Int.toNat_natCast, d12_K3, d12_K2, wr1 (show i < 4611686018427387904 by omega)]
theorem sources_no {im : IM} (k : Nat) (part : Int) (h : ¬ (1 ≤ part ∧ part ≤ (im.1.length : Int))) : d12 k (im, (part, ())) = some (([], (220, ())), ()) := by
  simp only [d12, there_eq, Option.bind_some, lt, decide_eq_false h, Bool.not_false, if_true]
theorem sources_yes {im : IM} (h : Small im) (k : Nat) (hk : 71 < k) {p : Nat} (hp : p < im.1.length) {R : BM} (h9 : d9 k (im, ()) = some ((R, ()), ())) (hR : Sq im.1.length R) : d12 k (im, ((p : Int) + 1, ())) = some ((srcL R p im.1.length 0, (0, ())), ()) := by
  have hn := h.n
  have h1 : decide (1 ≤ (p : Int) + 1 ∧ (p : Int) + 1 ≤ (im.1.length : Int)) = true := decide_eq_true (by omega)
  have := d12_loop d12_K1 h.n hp rfl hR im.1.length 0 k [] (by omega) (by omega) (by simp)
  simp only [d12, there_eq, Option.bind_some, lt, shr, h1, Bool.not_true, Bool.false_eq_true, if_false, h9, hR.len]
  exact this

/-! ### forced -/
abbrev BL := List Bool
def gb (l : BL) (j : Nat) : Bool := l.getD j false
theorem gb_set {n : Nat} {l : BL} (h : l.length = n) {i : Nat} (hi : i < n) (b : Bool) (a : Nat) : gb (l.set i b) a = if a = i then b else gb l a := by
  unfold gb; exact getD_set _ _ _ _ _ (by omega)
/-- One node's steps. -/
theorem d23_in {n : Nat} (hn : n ≤ 40) {D : BM} (hD : Sq n D) {j : Nat} (hj : j < n) : ∀ m c (l : BL), c + m = n → l.length = n →
    ∃ l', l'.length = n ∧ (∀ a, gb l a = true → gb l' a = true) ∧ (gb l j = true → ∀ a, c ≤ a → a < n → gt D j a = true → gb l' a = true) ∧
      ∀ (A E : Int) (far : BM) (K : (BL × Unit) × BM × Int × Int × BM × Int × Int × Unit → Option ((Bool × Unit) × Unit)) (k : Nat), m < k →
      loopN (d23_L9 K) k ((l, ()), ((c : Int), ((j : Int), (D, ((n : Int), (A, (far, (E, ())))))))) = K ((l', ()), (D, ((n : Int), (A, (far, (E, ((j : Int), ()))))))) := by
  intro m
  induction m with
  | zero =>
    intro c l hc hl
    refine ⟨l, hl, fun a h => h, fun _ a h1 h2 => by omega, fun A E far K k hk => ?_⟩
    obtain ⟨k, rfl⟩ : ∃ k', k = k' + 1 := ⟨k - 1, by omega⟩
    simp only [loopN, d23_L9, lt, dnlt (show n ≤ c by omega), Bool.false_beq, Bool.not_true, Bool.false_and, Bool.not_false, Bool.true_or, if_true, Bool.false_eq_true, if_false]
  | succ m ih =>
    intro c l hc hl
    have h1 : c < n := by omega
    have g1 : l.getD j false = gb l j := rfl
    cases hg : gb l j with
    | false =>
      refine ⟨l, hl, fun a h => h, (fun h => by cases h), fun A E far K k hk => ?_⟩
      obtain ⟨k, rfl⟩ : ∃ k', k = k' + 1 := ⟨k - 1, by omega⟩
      simp only [loopN, d23_L9, lt, dlt h1, dlt hj, nlt hj, dge0, hl, Int.toNat_natCast, beq_self_eq_true, Bool.and_self, Bool.and_true, Bool.or_true, Bool.not_true, if_true, g1, hg, Bool.false_eq_true, if_false]
    | true =>
      have r1 := hD.row j hj
      have g2 : l.getD c false = gb l c := rfl
      have g3 : (D.getD j []).getD c false = gt D j c := rfl
      obtain ⟨l', a1, a2, a3, a4⟩ := ih (c + 1) (l.set c (gb l c || gt D j c)) (by omega) (by simp [hl])
      have mono : ∀ a, gb l a = true → gb (l.set c (gb l c || gt D j c)) a = true := fun a h => by
        rw [gb_set hl h1]; split
        · rename_i e; rw [e] at h; rw [h]; rfl
        · exact h
      refine ⟨l', a1, fun a h => a2 a (mono a h), fun _ a ha1 ha2 hd => ?_, fun A E far K k hk => ?_⟩
      · by_cases e : a = c
        · subst e
          refine a2 a ?_
          rw [gb_set hl h1, if_pos rfl, hd, Bool.or_true]
        · exact a3 (mono j hg) a (by omega) ha2 hd
      · obtain ⟨k, rfl⟩ : ∃ k', k = k' + 1 := ⟨k - 1, by omega⟩
        rw [← a4 A E far K k (by omega)]
        have ho : (if gb l c = true then true else gt D j c) = (gb l c || gt D j c) := by cases gb l c <;> rfl
        simp only [loopN, d23_L9, lt, shr, dlt h1, nlt h1, dlt hj, nlt hj, dge0, hl, hD.len, r1, Int.toNat_natCast, beq_self_eq_true, Bool.and_self, Bool.and_true, Bool.or_true, Bool.not_true, if_true, g1, g2, g3, hg, ho, d23_K8, wr1 (show c < 4611686018427387904 by omega)]
/-- One round. -/
theorem d23_round {n : Nat} (hn : n ≤ 40) {D : BM} (hD : Sq n D) : ∀ m j (l : BL), j + m = n → l.length = n →
    ∃ l', l'.length = n ∧ (∀ a, gb l a = true → gb l' a = true) ∧ (∀ b, j ≤ b → b < n → gb l b = true → ∀ a, a < n → gt D b a = true → gb l' a = true) ∧
      ∀ (A E : Int) (far : BM) (K : (BL × Unit) × BM × Int × Int × BM × Int × Unit → Option ((Bool × Unit) × Unit)) (k0 k : Nat), m < k → 40 < k0 →
      loopN (d23_L10 k0 K) k ((l, ()), ((j : Int), (D, ((n : Int), (A, (far, (E, ()))))))) = K ((l', ()), (D, ((n : Int), (A, (far, (E, ())))))) := by
  intro m
  induction m with
  | zero =>
    intro j l hj hl
    refine ⟨l, hl, fun a h => h, fun b h1 h2 => by omega, fun A E far K k0 k hk hk0 => ?_⟩
    obtain ⟨k, rfl⟩ : ∃ k', k = k' + 1 := ⟨k - 1, by omega⟩
    simp only [loopN, d23_L10, lt, dnlt (show n ≤ j by omega), Bool.false_eq_true, if_false]
  | succ m ih =>
    intro j l hj hl
    have h1 : j < n := by omega
    obtain ⟨l1, b1, b2, b3, b4⟩ := d23_in hn hD h1 n 0 l (by omega) hl
    obtain ⟨l', a1, a2, a3, a4⟩ := ih (j + 1) l1 (by omega) b1
    refine ⟨l', a1, fun a h => a2 a (b2 a h), fun b hb1 hb2 hg a ha hd => ?_, fun A E far K k0 k hk hk0 => ?_⟩
    · by_cases e : b = j
      · subst e; exact a2 a (b3 hg a (Nat.zero_le _) ha hd)
      · exact a3 b (by omega) hb2 (b2 b hg) a ha hd
    · obtain ⟨k, rfl⟩ : ∃ k', k = k' + 1 := ⟨k - 1, by omega⟩
      rw [← a4 A E far K k0 k (by omega) hk0]
      simp only [loopN]
      rw [show d23_L10 k0 K (loopN (d23_L10 k0 K) k) ((l, ()), ((j : Int), (D, ((n : Int), (A, (far, (E, ()))))))) = _ from by
        simp only [d23_L10, lt, shr, dlt h1, if_true]
        exact b4 A E far _ k0 (by omega)]
      simp only [d23_K7, d23_K6, wr1 (show j < 4611686018427387904 by omega)]

theorem count_le : ∀ (l l1 : BL), l.length = l1.length → (∀ a, gb l a = true → gb l1 a = true) → l.count true ≤ l1.count true
  | [], [], _, _ => Nat.le_refl _
  | x :: l, y :: l1, hl, h => by
    have ih := count_le l l1 (by simpa using hl) fun a => h (a + 1)
    have h0 : x = true → y = true := h 0
    cases x <;> cases y <;> simp at h0 ⊢ <;> omega
  | [], _ :: _, hl, _ => by simp at hl
  | _ :: _, [], hl, _ => by simp at hl
theorem count_lt : ∀ (l l1 : BL), l.length = l1.length → (∀ a, gb l a = true → gb l1 a = true) → l ≠ l1 → l.count true < l1.count true
  | [], [], _, _, hne => absurd rfl hne
  | x :: l, y :: l1, hl, h, hne => by
    have hl' : l.length = l1.length := by simpa using hl
    have hle := count_le l l1 hl' fun a => h (a + 1)
    have h0 : x = true → y = true := h 0
    by_cases e : l = l1
    · subst e
      have : x ≠ y := fun e => hne (by rw [e])
      cases x <;> cases y <;> simp at h0 this ⊢
    · have ih := count_lt l l1 hl' (fun a => h (a + 1)) e
      cases x <;> cases y <;> simp at h0 ⊢ <;> omega
  | [], _ :: _, hl, _, _ => by simp at hl
  | _ :: _, [], hl, _, _ => by simp at hl

def Closed (n : Nat) (D : BM) (l : BL) : Prop := ∀ b a, b < n → a < n → gb l b = true → gt D b a = true → gb l a = true
/-- All rounds. -/
theorem d23_rounds {n : Nat} (hn : n ≤ 40) {D far : BM} (A : Int) (k0 : Nat) (hk0 : 40 < k0) (K : (BL × Unit) × Int × BM × Int × Unit → Option ((Bool × Unit) × Unit))
    (f : BL → BL) (hf : ∀ l : BL, l.length = n → (f l).length = n ∧ (∀ a, gb l a = true → gb (f l) a = true) ∧ (∀ b, b < n → gb l b = true → ∀ a, a < n → gt D b a = true → gb (f l) a = true) ∧
      ∀ (A E : Int) (far : BM) (K : (BL × Unit) × BM × Int × Int × BM × Int × Unit → Option ((Bool × Unit) × Unit)) (k0 k : Nat), n < k → 40 < k0 →
      loopN (d23_L10 k0 K) k ((l, ()), ((0 : Int), (D, ((n : Int), (A, (far, (E, ()))))))) = K ((f l, ()), (D, ((n : Int), (A, (far, (E, ()))))))) : ∀ m s k (l : BL), s + m = n → m < k → l.length = n →
    ∃ l', l'.length = n ∧ (∀ a, gb l a = true → gb l' a = true) ∧ (f l = l → l' = l) ∧ (Closed n D l' ∨ l.count true + m ≤ l'.count true) ∧ loopN (d23_L11 k0 K) k ((l, ()), (D, ((n : Int), ((s : Int), (A, (far, ())))))) = K ((l', ()), (A, (far, ((n : Int), ())))) := by
  intro m
  induction m with
  | zero =>
    intro s k l hs hk hl
    obtain ⟨k, rfl⟩ : ∃ k', k = k' + 1 := ⟨k - 1, by omega⟩
    refine ⟨l, hl, fun a h => h, fun _ => rfl, .inr (by omega), ?_⟩
    simp only [loopN, d23_L11, lt, dnlt (show n ≤ s by omega), Bool.false_eq_true, if_false]
  | succ m ih =>
    intro s k l hs hk hl
    obtain ⟨k, rfl⟩ : ∃ k', k = k' + 1 := ⟨k - 1, by omega⟩
    obtain ⟨c1, c2, c3, c4⟩ := hf l hl
    obtain ⟨l', a1, a2, a3, a4, a5⟩ := ih (s + 1) k (f l) (by omega) (by omega) c1
    refine ⟨l', a1, fun a h => a2 a (c2 a h), fun e => ?_, ?_, ?_⟩
    · rw [e] at a3; exact a3 e
    · by_cases e : f l = l
      · have := a3 (by rw [e, e])
        refine .inl ?_
        rw [this]
        intro b a hb ha hg hd
        have := c3 b hb (by rw [e] at hg; exact hg) a ha hd
        exact this
      · have := count_lt l (f l) (by rw [hl, c1]) c2 (fun h => e h.symm)
        exact a4.imp id fun h => by omega
    · rw [← a5]
      simp only [loopN]
      rw [show d23_L11 k0 K (loopN (d23_L11 k0 K) k) ((l, ()), (D, ((n : Int), ((s : Int), (A, (far, ())))))) = _ from by
        simp only [d23_L11, lt, shr, dlt (show s < n by omega), if_true]
        exact c4 A (s : Int) far _ k0 k0 (by omega) hk0]
      simp only [d23_K5, d23_K4, wr1 (show s < 4611686018427387904 by omega)]
theorem d23_check {n : Nat} (hn : n ≤ 40) {far : BM} (hR : Sq n far) {l : BL} (hl : l.length = n) {i : Nat} (hi : i < n) (hall : ∀ a, a < n → gt far i a = true → gb l a = true) : ∀ m j k, j + m = n → m < k →
    loopN (d23_L2 fun x5 => some ((true, ()), ())) k ((l, ()), ((j : Int), ((i : Int), (far, ((n : Int), ()))))) = some ((true, ()), ()) := by
  intro m
  induction m with
  | zero =>
    intro j k hj hk
    obtain ⟨k, rfl⟩ : ∃ k', k = k' + 1 := ⟨k - 1, by omega⟩
    simp only [loopN, d23_L2, lt, dnlt (show n ≤ j by omega), Bool.false_eq_true, if_false]
  | succ m ih =>
    intro j k hj hk
    obtain ⟨k, rfl⟩ : ∃ k', k = k' + 1 := ⟨k - 1, by omega⟩
    have h1 : j < n := by omega
    have r1 := hR.row i hi
    have g1 : (far.getD i []).getD j false = gt far i j := rfl
    have g2 : l.getD j false = gb l j := rfl
    have hx : (if gt far i j = true then !gb l j else false) = false := by
      split
      · rename_i h; rw [hall j h1 h]; rfl
      · rfl
    refine Eq.trans ?_ (ih (j + 1) k (by omega) (by omega))
    simp only [loopN, d23_L2, lt, shr, dlt h1, nlt h1, dlt hi, nlt hi, dge0, hl, hR.len, r1, g1, g2, hx, Int.toNat_natCast, Bool.and_self, Bool.and_true, Bool.or_true, if_true, Bool.false_eq_true, if_false, d23_K1, wr1 (show j < 4611686018427387904 by omega)]
theorem forced_ok {n : Nat} (hn : n ≤ 40) {D R : BM} (hD : Sq n D) (hM : Mid D n n R) {i : Nat} (hi : i < n) (k : Nat) (hk : 40 < k) : d23 k (D, (R, ((i : Int), ()))) = some ((true, ()), ()) := by
  have hex : ∀ l : BL, ∃ l' : BL, l.length = n → l'.length = n ∧ (∀ a, gb l a = true → gb l' a = true) ∧ (∀ b, b < n → gb l b = true → ∀ a, a < n → gt D b a = true → gb l' a = true) ∧
      ∀ (A E : Int) (far : BM) (K : (BL × Unit) × BM × Int × Int × BM × Int × Unit → Option ((Bool × Unit) × Unit)) (k0 k : Nat), n < k → 40 < k0 →
      loopN (d23_L10 k0 K) k ((l, ()), ((0 : Int), (D, ((n : Int), (A, (far, (E, ()))))))) = K ((l', ()), (D, ((n : Int), (A, (far, (E, ())))))) := by
    intro l
    by_cases hl : l.length = n
    · obtain ⟨l', a1, a2, a3, a4⟩ := d23_round hn hD n 0 l (by omega) hl
      exact ⟨l', fun _ => ⟨a1, a2, fun b hb => a3 b (Nat.zero_le _) hb, a4⟩⟩
    · exact ⟨l, fun h => absurd h hl⟩
  let f : BL → BL := fun l => Classical.choose (hex l)
  have hf := fun l => Classical.choose_spec (hex l)
  have hl0 : ((List.replicate n false).set i true).length = n := by simp
  obtain ⟨l', a1, a2, a3, a4, a5⟩ := d23_rounds hn (far := R) (i : Int) k hk (d23_K3 k) f hf n 0 k _ (by omega) (by omega) hl0
  have hgi : gb ((List.replicate n false).set i true) i = true := by rw [gb_set (n := n) (by simp) hi, if_pos rfl]
  have hcl : Closed n D l' := by
    refine a4.resolve_right fun h => ?_
    have h1 : l'.count true ≤ n := by rw [← a1]; exact List.count_le_length
    have h2 : 0 < ((List.replicate n false).set i true).count true := List.count_pos_iff.2 (by
      rw [List.mem_iff_getElem?]
      exact ⟨i, by rw [List.getElem?_set]; simp [hi]⟩)
    omega
  have hpath : ∀ a, Path D n i a → gb l' a = true := by
    intro a h
    induction h with
    | refl => exact a2 i hgi
    | step h hj hk hd ih => exact hcl _ _ hj hk ih hd
  have hall : ∀ a, a < n → gt R i a = true → gb l' a = true := fun a ha h => hpath a (hM.path i a hi ha h)
  have e1 : decide ((n : Int) ≤ (n : Int)) = true := decide_eq_true (by omega)
  have e2 : decide ((((1 : Nat) : Nat) : Int) * (n : Int) ≤ (281474976710656 : Int)) = true := decide_eq_true (by omega)
  have e3 : decide ((n : Int) ≤ (9223372036854775807 : Int)) = true := decide_eq_true (by omega)
  simp only [d23, lt, shr, hD.len, dge0, e1, e2, e3, Bool.and_self, Bool.and_true, if_true, Int.toNat_natCast, List.length_replicate, dlt hi, nlt hi]
  rw [show ((0 : Int)) = ((0 : Nat) : Int) from rfl, a5]
  simp only [d23_K3, shr]
  exact d23_check hn hM.sq a1 hi hall n 0 k (by omega) (by omega)
end Go.Proofs.YtledeaknnihlmaaDoor.L
