import Derived.Test.YtledeaknnihlmaaFaM3
namespace Go.Proofs.Ytledeaknnihlmaa.L
open Go Go.Lift
set_option linter.unusedVariables false
set_option linter.unusedSimpArgs false
set_option maxRecDepth 100000

theorem gb_anti {l l1 : BL} (hl : l.length = l1.length) (h1 : ∀ a, gb l a = true → gb l1 a = true) (h2 : ∀ a, gb l1 a = true → gb l a = true) : l = l1 := by
  refine Classical.byContradiction fun e => ?_
  have q1 := count_lt l l1 hl h1 e
  have q2 := count_le l1 l hl.symm h2
  omega
theorem gb_lt {l : BL} {a : Nat} (h : gb l a = true) : a < l.length := by
  refine Classical.byContradiction fun e => ?_
  unfold gb at h
  rw [List.getD_eq_getElem?_getD, List.getElem?_eq_none (by omega)] at h
  cases h
/-- One node's steps. -/
theorem d60_in {n : Nat} (hn : n ≤ 40) {D : BM} (hD : Sq n D) {i : Nat} (hi : i < n) : ∀ m c (l : BL), c + m = n → l.length = n →
    ∃ l', l'.length = n ∧ (∀ a, gb l a = true → gb l' a = true) ∧ (∀ a, gb l' a = true → gb l a = true ∨ (gb l i = true ∧ gt D i a = true)) ∧ (gb l i = true → ∀ a, c ≤ a → a < n → gt D i a = true → gb l' a = true) ∧
      ∀ (more : Bool) (K : (BL × Unit) × BM × Bool × Int × Unit → Option ((BL × Unit) × Unit)) (k : Nat), m < k →
      loopN (d60_L8 K) k ((l, ()), ((c : Int), ((i : Int), (D, (more, ()))))) = K ((l', ()), (D, ((more || decide (l' ≠ l)), ((i : Int), ())))) := by
  intro m
  induction m with
  | zero =>
    intro c l hc hl
    refine ⟨l, hl, fun a h => h, fun a h => .inl h, fun _ a h1 h2 => by omega, fun more K k hk => ?_⟩
    obtain ⟨k, rfl⟩ : ∃ k', k = k' + 1 := ⟨k - 1, by omega⟩
    have hdd : decide (l ≠ l) = false := decide_eq_false fun h => h rfl
    simp only [loopN, d60_L8, lt, hD.len, dnlt (show n ≤ c by omega), Bool.false_beq, Bool.not_true, Bool.false_and, Bool.not_false, Bool.true_or, if_true, Bool.false_eq_true, if_false, hdd, Bool.or_false]
  | succ m ih =>
    intro c l hc hl
    have h1 : c < n := by omega
    have g1 : l.getD i false = gb l i := rfl
    cases hg : gb l i with
    | false =>
      refine ⟨l, hl, fun a h => h, fun a h => .inl h, (fun h => by cases h), fun more K k hk => ?_⟩
      obtain ⟨k, rfl⟩ : ∃ k', k = k' + 1 := ⟨k - 1, by omega⟩
      have hdd : decide (l ≠ l) = false := decide_eq_false fun h => h rfl
      simp only [loopN, d60_L8, lt, hD.len, dlt h1, dlt hi, nlt hi, dge0, hl, Int.toNat_natCast, beq_self_eq_true, Bool.and_self, Bool.and_true, Bool.or_true, Bool.not_true, if_true, g1, hg, Bool.false_eq_true, if_false, hdd, Bool.or_false]
    | true =>
      have r1 := hD.row i hi
      have g2 : l.getD c false = gb l c := rfl
      have g3 : (D.getD i []).getD c false = gt D i c := rfl
      cases hd : gt D i c with
      | false =>
        obtain ⟨l', a1, a2, a3, a4, a5⟩ := ih (c + 1) l (by omega) hl
        refine ⟨l', a1, a2, fun a h => (a3 a h).imp id fun q => ⟨rfl, q.2⟩, fun _ a ha1 ha2 hda => ?_, fun more K k hk => ?_⟩
        · by_cases e : a = c
          · subst e; rw [hd] at hda; cases hda
          · exact a4 hg a (by omega) ha2 hda
        · obtain ⟨k, rfl⟩ : ∃ k', k = k' + 1 := ⟨k - 1, by omega⟩
          rw [← a5 more K k (by omega)]
          simp only [loopN, d60_L8, lt, shr, hD.len, dlt h1, nlt h1, dlt hi, nlt hi, dge0, hl, r1, Int.toNat_natCast, beq_self_eq_true, show ((false == true) = false) from rfl, Bool.false_and, Bool.not_false, Bool.true_or, Bool.and_self, Bool.and_true, Bool.or_true, Bool.not_true, if_true, g1, g2, g3, hg, hd, Bool.false_eq_true, if_false, d60_K7, d60_K6, wr1 (show c < 4611686018427387904 by omega)]
      | true =>
        cases hgc : gb l c with
        | true =>
          obtain ⟨l', a1, a2, a3, a4, a5⟩ := ih (c + 1) l (by omega) hl
          refine ⟨l', a1, a2, fun a h => (a3 a h).imp id fun q => ⟨rfl, q.2⟩, fun _ a ha1 ha2 hda => ?_, fun more K k hk => ?_⟩
          · by_cases e : a = c
            · subst e; exact a2 _ hgc
            · exact a4 hg a (by omega) ha2 hda
          · obtain ⟨k, rfl⟩ : ∃ k', k = k' + 1 := ⟨k - 1, by omega⟩
            rw [← a5 more K k (by omega)]
            simp only [loopN, d60_L8, lt, shr, hD.len, dlt h1, nlt h1, dlt hi, nlt hi, dge0, hl, r1, Int.toNat_natCast, beq_self_eq_true, Bool.and_self, Bool.and_true, Bool.or_true, Bool.not_true, if_true, g1, g2, g3, hg, hd, hgc, Bool.false_eq_true, if_false, d60_K7, d60_K6, wr1 (show c < 4611686018427387904 by omega)]
        | false =>
          obtain ⟨l', a1, a2, a3, a4, a5⟩ := ih (c + 1) (l.set c true) (by omega) (by simp [hl])
          have mono : ∀ a, gb l a = true → gb (l.set c true) a = true := fun a h => by
            rw [gb_set hl h1]; split
            · rfl
            · exact h
          have hlc : gb l' c = true := a2 c (by rw [gb_set hl h1, if_pos rfl])
          have hne : l' ≠ l := fun e => by rw [e, hgc] at hlc; cases hlc
          refine ⟨l', a1, fun a h => a2 a (mono a h), fun a h => ?_, fun _ a ha1 ha2 hda => ?_, fun more K k hk => ?_⟩
          · rcases a3 a h with q | q
            · rw [gb_set hl h1] at q
              split at q
              · rename_i e; subst e; exact .inr ⟨rfl, hd⟩
              · exact .inl q
            · exact .inr ⟨rfl, q.2⟩
          · by_cases e : a = c
            · subst e; exact hlc
            · exact a4 (mono i hg) a (by omega) ha2 hda
          · obtain ⟨k, rfl⟩ : ∃ k', k = k' + 1 := ⟨k - 1, by omega⟩
            have := a5 true K k (by omega)
            rw [Bool.true_or] at this
            rw [decide_eq_true hne, Bool.or_true, ← this]
            simp only [loopN, d60_L8, lt, shr, hD.len, dlt h1, nlt h1, dlt hi, nlt hi, dge0, hl, r1, Int.toNat_natCast, beq_self_eq_true, Bool.and_self, Bool.and_true, Bool.or_true, Bool.not_true, Bool.not_false, if_true, g1, g2, g3, hg, hd, hgc, Bool.false_eq_true, if_false, d60_K7, d60_K6, wr1 (show c < 4611686018427387904 by omega)]
/-- One round. -/
theorem d60_round {n : Nat} (hn : n ≤ 40) {D : BM} (hD : Sq n D) : ∀ m j (l : BL), j + m = n → l.length = n →
    ∃ l', l'.length = n ∧ (∀ a, gb l a = true → gb l' a = true) ∧ (∀ s, (∀ a, gb l a = true → Path D n s a) → ∀ a, gb l' a = true → Path D n s a) ∧ (∀ b, j ≤ b → b < n → gb l b = true → ∀ a, a < n → gt D b a = true → gb l' a = true) ∧
      ∀ (more : Bool) (K : (BL × Unit) × BM × Bool × Unit → Option ((BL × Unit) × Unit)) (k0 k : Nat), m < k → 40 < k0 →
      loopN (d60_L9 k0 K) k ((l, ()), ((j : Int), (D, (more, ())))) = K ((l', ()), (D, ((more || decide (l' ≠ l)), ()))) := by
  intro m
  induction m with
  | zero =>
    intro j l hj hl
    refine ⟨l, hl, fun a h => h, fun s h => h, fun b h1 h2 => by omega, fun more K k0 k hk hk0 => ?_⟩
    obtain ⟨k, rfl⟩ : ∃ k', k = k' + 1 := ⟨k - 1, by omega⟩
    have hdd : decide (l ≠ l) = false := decide_eq_false fun h => h rfl
    simp only [loopN, d60_L9, lt, hD.len, dnlt (show n ≤ j by omega), Bool.false_eq_true, if_false, hdd, Bool.or_false]
  | succ m ih =>
    intro j l hj hl
    have h1 : j < n := by omega
    obtain ⟨l1, b1, b2, b3, b4, b5⟩ := d60_in hn hD h1 n 0 l (by omega) hl
    obtain ⟨l', a1, a2, a3, a4, a5⟩ := ih (j + 1) l1 (by omega) b1
    refine ⟨l', a1, fun a h => a2 a (b2 a h), fun s hs a h => ?_, fun b hb1 hb2 hg a ha hd => ?_, fun more K k0 k hk hk0 => ?_⟩
    · refine a3 s (fun a h => ?_) a h
      rcases b3 a h with q | ⟨q, q2⟩
      · exact hs a q
      · exact .step (hs j q) h1 (by rw [← b1]; exact gb_lt h) q2
    · by_cases e : b = j
      · subst e; exact a2 a (b4 hg a (Nat.zero_le _) ha hd)
      · exact a4 b (by omega) hb2 (b2 b hg) a ha hd
    · obtain ⟨k, rfl⟩ : ∃ k', k = k' + 1 := ⟨k - 1, by omega⟩
      have e : ((more || decide (l1 ≠ l)) || decide (l' ≠ l1)) = (more || decide (l' ≠ l)) := by
        rw [Bool.or_assoc]
        congr 1
        by_cases e1 : l1 = l
        · subst e1; simp
        · have e2 : l' ≠ l := fun e2 => e1 (gb_anti (by rw [b1, hl]) (fun a h => by rw [← e2]; exact a2 a h) b2)
          rw [decide_eq_true e1, decide_eq_true e2, Bool.true_or]
      rw [← e, ← a5 (more || decide (l1 ≠ l)) K k0 k (by omega) hk0]
      simp only [loopN]
      rw [show d60_L9 k0 K (loopN (d60_L9 k0 K) k) ((l, ()), ((j : Int), (D, (more, ())))) = _ from by
        simp only [d60_L9, lt, shr, hD.len, dlt h1, if_true]
        exact b5 more _ k0 (by omega)]
      simp only [d60_K5, d60_K4, wr1 (show j < 4611686018427387904 by omega)]
/-- All rounds. -/
theorem d60_rounds {n : Nat} (hn : n ≤ 40) {D : BM} (hD : Sq n D) (k0 : Nat) (hk0 : 40 < k0) : ∀ m k (l : BL), n - l.count true ≤ m → m + 1 < k → l.length = n →
    ∃ l', l'.length = n ∧ (∀ a, gb l a = true → gb l' a = true) ∧ (∀ s, (∀ a, gb l a = true → Path D n s a) → ∀ a, gb l' a = true → Path D n s a) ∧ Closed n D l' ∧
      loopN (d60_L10 k0 d60_K1) k ((l, ()), (D, (true, ()))) = some ((l', ()), ()) := by
  intro m
  induction m with
  | zero =>
    intro k l hm hk hl
    obtain ⟨k, rfl⟩ : ∃ k', k = k' + 2 := ⟨k - 2, by omega⟩
    obtain ⟨l1, b1, b2, b3, b4, b5⟩ := d60_round hn hD n 0 l (by omega) hl
    have hcl : l1.count true ≤ l1.length := List.count_le_length ..
    have e : l1 = l := Classical.byContradiction fun e => by
      have := count_lt l l1 (by rw [hl, b1]) b2 (fun h => e h.symm)
      omega
    subst e
    refine ⟨l1, hl, fun a h => h, b3, fun b a hb ha hg hd => b4 b (Nat.zero_le _) hb hg a ha hd, ?_⟩
    have := b5 false (d60_K3 (d60_K2 (loopN (d60_L10 k0 d60_K1) (k + 1)))) k0 k0 (by omega) hk0
    have hdd : decide (l1 ≠ l1) = false := decide_eq_false fun h => h rfl
    rw [hdd, Bool.or_false] at this
    rw [show k + 2 = (k + 1) + 1 from rfl, loopN]
    rw [show d60_L10 k0 d60_K1 (loopN (d60_L10 k0 d60_K1) (k + 1)) ((l1, ()), (D, (true, ()))) = _ from by
      simp only [d60_L10, shr, if_true]
      exact this]
    simp only [d60_K3, d60_K2, loopN, d60_L10, Bool.false_eq_true, if_false, d60_K1]
  | succ m ih =>
    intro k l hm hk hl
    obtain ⟨k, rfl⟩ : ∃ k', k = k' + 2 := ⟨k - 2, by omega⟩
    obtain ⟨l1, b1, b2, b3, b4, b5⟩ := d60_round hn hD n 0 l (by omega) hl
    have hb5 := b5 false (d60_K3 (d60_K2 (loopN (d60_L10 k0 d60_K1) (k + 1)))) k0 k0 (by omega) hk0
    by_cases e : l1 = l
    · subst e
      refine ⟨l1, hl, fun a h => h, b3, fun b a hb ha hg hd => b4 b (Nat.zero_le _) hb hg a ha hd, ?_⟩
      have hdd : decide (l1 ≠ l1) = false := decide_eq_false fun h => h rfl
      rw [hdd, Bool.or_false] at hb5
      rw [show k + 2 = (k + 1) + 1 from rfl, loopN]
      rw [show d60_L10 k0 d60_K1 (loopN (d60_L10 k0 d60_K1) (k + 1)) ((l1, ()), (D, (true, ()))) = _ from by
        simp only [d60_L10, shr, if_true]
        exact hb5]
      simp only [d60_K3, d60_K2, loopN, d60_L10, Bool.false_eq_true, if_false, d60_K1]
    · have hc := count_lt l l1 (by rw [hl, b1]) b2 (fun h => e h.symm)
      obtain ⟨l', a1, a2, a3, a4, a5⟩ := ih (k + 1) l1 (by omega) (by omega) b1
      refine ⟨l', a1, fun a h => a2 a (b2 a h), fun s hs => a3 s (b3 s hs), a4, ?_⟩
      rw [decide_eq_true e, Bool.or_true] at hb5
      rw [← a5, show k + 2 = (k + 1) + 1 from rfl, loopN]
      rw [show d60_L10 k0 d60_K1 (loopN (d60_L10 k0 d60_K1) (k + 1)) ((l, ()), (D, (true, ()))) = _ from by
        simp only [d60_L10, shr, if_true]
        exact hb5]
      simp only [d60_K3, d60_K2]
theorem spread_val {n : Nat} (hn : n ≤ 40) {D : BM} (hD : Sq n D) {s : Nat} (hs : s < n) (k : Nat) (hk : 42 < k) :
    ∃ l, l.length = n ∧ (∀ a, a < n → (gb l a = true ↔ Path D n s a)) ∧ d60 k (D, ((s : Int), ())) = some ((l, ()), ()) := by
  have hz : ∀ a, gb (List.replicate n false) a = false := fun a => by
    unfold gb
    simp only [List.getD_eq_getElem?_getD, List.getElem?_replicate]
    split <;> rfl
  have hrl : (List.replicate n false).length = n := List.length_replicate
  have hg0 : ∀ a, gb ((List.replicate n false).set s true) a = if a = s then true else false := fun a => by rw [gb_set hrl hs, hz]
  obtain ⟨l', a1, a2, a3, a4, a5⟩ := d60_rounds hn hD k (by omega) n k ((List.replicate n false).set s true) (by omega) (by omega) (by simp)
  refine ⟨l', a1, fun a ha => ⟨fun h => ?_, fun h => ?_⟩, ?_⟩
  · refine a3 s (fun a h => ?_) a h
    rw [hg0] at h
    split at h
    · rename_i e; subst e; exact .refl _
    · cases h
  · have hss : gb l' s = true := a2 s (by rw [hg0, if_pos rfl])
    clear ha
    induction h with
    | refl => exact hss
    | step h hj hk hd ih => exact a4 _ _ hj hk ih hd
  · have e1 : decide ((n : Int) ≤ (n : Int)) = true := decide_eq_true (by omega)
    have e2 : decide ((((1 : Nat) : Nat) : Int) * (n : Int) ≤ (281474976710656 : Int)) = true := decide_eq_true (by omega)
    have e3 : decide ((n : Int) ≤ (9223372036854775807 : Int)) = true := decide_eq_true (by omega)
    simp only [d60, lt, shr, hD.len, dge0, e1, e2, e3, Bool.and_self, Bool.and_true, if_true, Int.toNat_natCast, List.length_replicate, dlt hs, nlt hs]
    exact a5
/-! ### the reference's reach -/
theorem path_congr {D D' : BM} {n : Nat} (h : ∀ a c, a < n → c < n → gt D a c = gt D' a c) {s a : Nat} (p : Path D n s a) : Path D' n s a := by
  induction p with
  | refl => exact .refl _
  | step q hj hk hd ih => exact .step ih hj hk (by rw [← h _ _ hj hk]; exact hd)
/-- The rows that are known. -/
def Rws (n : Nat) (D R : BM) (i : Nat) : Prop := R.length = i ∧ ∀ s, s < i → (R.getD s []).length = n ∧ ∀ a, a < n → (gt R s a = true ↔ Path D n s a)
theorem d49_loop (k0 : Nat) (hk0 : 42 < k0) {n : Nat} (hn : n ≤ 40) {D : BM} (hD : Sq n D) : ∀ m i k (R : BM), i + m = n → m < k → Rws n D R i →
    ∃ R', Rws n D R' n ∧ loopN (d49_L3 k0 d49_K1) k ((D, (R, ())), ((i : Int), ())) = some ((R', ()), ()) := by
  intro m
  induction m with
  | zero =>
    intro i k R hi hk hR
    obtain ⟨k, rfl⟩ : ∃ k', k = k' + 1 := ⟨k - 1, by omega⟩
    obtain rfl : i = n := by omega
    refine ⟨R, hR, ?_⟩
    simp only [loopN, d49_L3, lt, hD.len, dnlt (Nat.le_refl _), Bool.false_eq_true, if_false, d49_K1]
  | succ m ih =>
    intro i k R hi hk hR
    obtain ⟨k, rfl⟩ : ∃ k', k = k' + 1 := ⟨k - 1, by omega⟩
    have h1 : i < n := by omega
    obtain ⟨l, l1, l2, l3⟩ := spread_val hn hD h1 k0 hk0
    have hap : ∀ s, (R ++ [l]).getD s [] = if s < i then R.getD s [] else if s = i then l else [] := fun s => by
      simp only [List.getD_eq_getElem?_getD]
      by_cases hs : s < i
      · rw [if_pos hs, List.getElem?_append_left (by rw [hR.1]; exact hs)]
      · rw [if_neg hs, List.getElem?_append_right (by rw [hR.1]; omega), hR.1]
        by_cases he : s = i
        · subst he; simp
        · rw [if_neg he]
          rw [List.getElem?_eq_none (by simp; omega)]; rfl
    have hR' : Rws n D (R ++ [l]) (i + 1) := by
      refine ⟨by rw [List.length_append, hR.1]; rfl, fun s hs => ?_⟩
      unfold gt
      rw [hap s]
      by_cases hsi : s < i
      · rw [if_pos hsi]
        exact hR.2 s hsi
      · obtain rfl : s = i := by omega
        rw [if_neg hsi, if_pos rfl]
        exact ⟨l1, l2⟩
    obtain ⟨R', a1, a2⟩ := ih (i + 1) k (R ++ [l]) (by omega) (by omega) hR'
    refine ⟨R', a1, ?_⟩
    rw [← a2]
    have hf : appFits R.length 1 24 = true := by rw [hR.1]; exact fit1 (by omega) (by omega)
    simp only [loopN, d49_L3, lt, shr, hD.len, dlt h1, if_true, l3, Option.bind_some, List.length_cons, List.length_nil, Nat.zero_add, hf, d49_K2, wr1 (show i < 4611686018427387904 by omega)]
theorem rreach_val (k : Nat) (hk : 70 < k) {im : IM} (h : Small im) : ∃ R, Sq im.1.length R ∧ (∀ a c, a < im.1.length → c < im.1.length → (gt R a c = true ↔ Path (matD im im.1.length) im.1.length a c)) ∧ d49 k (im, ()) = some ((R, ()), ()) := by
  obtain ⟨R, a1, a2⟩ := d49_loop k (by omega) h.n (matD_sq im) im.1.length 0 k [] (by omega) (by have := h.n; omega) ⟨rfl, fun s hs => by omega⟩
  refine ⟨R, ⟨a1.1, fun i hi => (a1.2 i hi).1⟩, fun a c ha hc => (a1.2 a ha).2 c hc, ?_⟩
  simp only [d49, rdirect_val k hk h, Option.bind_some, shr]
  exact a2
/-! ### Sources: both -/
theorem d30_loop {n p : Nat} (hn : n ≤ 40) (hp : p < n) {part : Int} (hpart : part = (p : Int) + 1) {R : BM} (hR : Sq n R) : ∀ m i k (out : List Int), i + m = n → m < k → out.length ≤ i →
    loopN (d30_L4 d30_K1) k ((out, (R, ())), ((i : Int), (part, ()))) = some ((out ++ srcL R p m i, (true, ())), ()) := by
  intro m
  induction m with
  | zero =>
    intro i k out hi hk ho
    obtain ⟨k, rfl⟩ : ∃ k', k = k' + 1 := ⟨k - 1, by omega⟩
    simp only [loopN, d30_L4, lt, hR.len, dnlt (show n ≤ i by omega), Bool.false_eq_true, if_false, srcL, List.append_nil, d30_K1]
  | succ m ih =>
    intro i k out hi hk ho
    obtain ⟨k, rfl⟩ : ∃ k', k = k' + 1 := ⟨k - 1, by omega⟩
    have h1 : i < n := by omega
    have r1 := hR.row i h1
    have ep : IntKind.wrap .i64 (part - 1) = (p : Int) := by rw [wrI (by omega) (by omega)]; omega
    have g1 : (R.getD i []).getD p false = gt R i p := rfl
    have ef : appFits out.length 1 8 = true := fit1 (by omega) (by omega)
    cases hg : gt R i p with
    | true =>
      have := ih (i + 1) k (out ++ [((i + 1 : Nat) : Int)]) (by omega) (by omega) (by simp; omega)
      simp only [srcL, hg, if_true]
      rw [show out ++ ((i + 1 : Nat) : Int) :: srcL R p m (i + 1) = out ++ [((i + 1 : Nat) : Int)] ++ srcL R p m (i + 1) by simp, ← this]
      simp only [loopN, d30_L4, lt, shr, dlt h1, nlt h1, dlt hp, nlt hp, dge0, hR.len, r1, g1, hg, ep, Bool.and_self, Bool.and_true, if_true, Int.toNat_natCast, List.length_cons, List.length_nil, Nat.zero_add, ef, d30_K3, d30_K2, wr1 (show i < 4611686018427387904 by omega)]
    | false =>
      have := ih (i + 1) k out (by omega) (by omega) (by omega)
      simp only [srcL, hg, Bool.false_eq_true, if_false]
      rw [← this]
      simp only [loopN, d30_L4, lt, shr, dlt h1, nlt h1, dlt hp, nlt hp, dge0, hR.len, r1, g1, hg, ep, Bool.and_self, Bool.and_true, Bool.false_eq_true, if_false, if_true, Int.toNat_natCast, d30_K3, d30_K2, wr1 (show i < 4611686018427387904 by omega)]
theorem rsources_no {im : IM} (k : Nat) (part : Int) (h : ¬ (1 ≤ part ∧ part ≤ (im.1.length : Int))) : d30 k (im, (part, ())) = some (([], (false, ())), ()) := by
  simp only [d30, rthere_eq, Option.bind_some, lt, decide_eq_false h, Bool.not_false, if_true]
theorem srcL_congr {R R' : BM} {n p : Nat} (hp : p < n) (h : ∀ a c, a < n → c < n → gt R a c = gt R' a c) : ∀ m i, i + m = n → srcL R p m i = srcL R' p m i
  | 0, i, _ => rfl
  | m + 1, i, hi => by
    simp only [srcL, h i p (by omega) hp, srcL_congr hp h m (i + 1) (by omega)]
theorem srcL_mem {R : BM} {p : Nat} : ∀ m i, ∀ s ∈ srcL R p m i, ∃ j, i ≤ j ∧ j < i + m ∧ s = ((j + 1 : Nat) : Int)
  | 0, i, s, h => by cases h
  | m + 1, i, s, h => by
    have key : s ∈ srcL R p m (i + 1) → ∃ j, i ≤ j ∧ j < i + (m + 1) ∧ s = ((j + 1 : Nat) : Int) := fun h => by
      obtain ⟨j, h1, h2, h3⟩ := srcL_mem m (i + 1) s h
      exact ⟨j, by omega, by omega, h3⟩
    simp only [srcL] at h
    split at h
    · rcases List.mem_cons.1 h with h | h
      · exact ⟨i, by omega, by omega, h⟩
      · exact key h
    · exact key h
/-- The sources: both answer the same list of partitions that are there. -/
theorem sources_both {im : IM} (h : Small im) (k : Nat) (hk : 71 < k) {part : Int} (hp : 1 ≤ part ∧ part ≤ (im.1.length : Int)) :
    ∃ l : List Int, l.length ≤ 40 ∧ (∀ s ∈ l, 1 ≤ s ∧ s ≤ (im.1.length : Int)) ∧ d17 k (im, (part, ())) = some ((l, (0, ())), ()) ∧ d30 k (im, (part, ())) = some ((l, (true, ())), ()) := by
  obtain ⟨p, rfl⟩ : ∃ p : Nat, part = (p : Int) + 1 := ⟨(part - 1).toNat, by omega⟩
  have hpn : p < im.1.length := by omega
  have hn := h.n
  obtain ⟨D, R, a1, a2, a3, a4, a5⟩ := reach_ok h k hk
  obtain ⟨R', b1, b2, b3⟩ := rreach_val k (by omega) h
  have hRR : ∀ a c, a < im.1.length → c < im.1.length → gt R a c = gt R' a c := fun a c ha hc => by
    rw [Bool.eq_iff_iff, b2 a c ha hc]
    refine ⟨fun h => path_congr (fun x y hx hy => by rw [a2 x y hx hy, matD_gt hx hy]) (a5.path a c ha hc h), fun h0 => ?_⟩
    have h1 := path_congr (D' := D) (fun x y hx hy => by rw [a2 x y hx hy, matD_gt hx hy]) h0
    clear hc h0
    induction h1 with
    | refl => exact a5.diag a ha
    | step q hj hk hd ih => exact a5.thru _ _ _ ha hk hj ih (a5.has _ _ hj hk hd)
  refine ⟨srcL R p im.1.length 0, Nat.le_trans (srcL_len _ _ _ _) hn, fun s hs => ?_, sources_yes h k hk hpn a4 a5.sq, ?_⟩
  · obtain ⟨j, _, h2, h3⟩ := srcL_mem _ _ s hs
    omega
  · rw [srcL_congr hpn hRR _ _ (by omega)]
    have q1 : decide (1 ≤ (p : Int) + 1 ∧ (p : Int) + 1 ≤ (im.1.length : Int)) = true := decide_eq_true (by omega)
    have := d30_loop hn hpn rfl b1 im.1.length 0 k [] (by omega) (by omega) (by simp)
    simp only [d30, rthere_eq, Option.bind_some, lt, shr, q1, Bool.not_true, Bool.false_eq_true, if_false, b3]
    exact this
end Go.Proofs.Ytledeaknnihlmaa.L
