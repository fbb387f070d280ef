import Derived.Test.YtledeaknnihlmaaDoorFlM3
namespace Go.Proofs.YtledeaknnihlmaaDoor.L
open Go Go.Lift
set_option linter.unusedVariables false
set_option linter.unusedSimpArgs false
set_option maxRecDepth 100000

/-! ### trimmed -/
theorem t70 : Int.toNat (70 : Int) = 70 := rfl
theorem t40 : Int.toNat (40 : Int) = 40 := rfl
theorem q70 : decide ((0 : Int) ≤ (70 : Int)) = true := rfl
theorem q40 : decide ((0 : Int) ≤ (40 : Int)) = true := rfl
theorem q0 (n : Nat) : decide (0 ≤ n) = true := decide_eq_true (Nat.zero_le _)
theorem d6_loop (im z : IM) : ∀ m i k (l : List CH), i + m = min im.2.2.1.length 70 → m < k → l.length = i → (∀ c ∈ l, c.2.2.1.length ≤ 70) →
    ∃ l' : List CH, l'.length ≤ 70 ∧ (∀ c ∈ l', c.2.2.1.length ≤ 70) ∧ loopN (d6_L4 d6_K1) k ((l, (im, (z, ()))), ((i : Int), ())) = d6_K1 ((z, (im, (l', ()))), ()) := by
  intro m
  induction m with
  | zero =>
    intro i k l hi hk hl hc
    obtain ⟨k, rfl⟩ : ∃ k', k = k' + 1 := ⟨k - 1, by omega⟩
    refine ⟨l, by omega, hc, ?_⟩
    rcases Nat.lt_or_ge i im.2.2.1.length with h | h
    · have e : decide ((i : Int) < 70) = false := decide_eq_false (by omega)
      simp only [loopN, d6_L4, lt, dlt h, e, if_true, Bool.false_eq_true, if_false]
    · simp only [loopN, d6_L4, lt, dnlt h, Bool.false_eq_true, if_false]
  | succ m ih =>
    intro i k l hi hk hl hc
    obtain ⟨k, rfl⟩ : ∃ k', k = k' + 1 := ⟨k - 1, by omega⟩
    have h1 : i < im.2.2.1.length := by omega
    have h2 : decide ((i : Int) < 70) = true := decide_eq_true (by omega)
    have ef : appFits l.length 1 56 = true := fit1 (by omega) (by omega)
    generalize hch : im.2.2.1.getD i ((0 : Int), ((0 : Int), (([] : List Int), ((0 : Int), ((0 : Int), ()))))) = ch
    by_cases ht : ch.2.2.1.length ≤ 70
    · have e : decide (((ch.2.2.1.length : Nat) : Int) > 70) = false := decide_eq_false (by omega)
      obtain ⟨l', a1, a2, a3⟩ := ih (i + 1) k (l ++ [ch]) (by omega) (by omega) (by simp [hl]) (fun c hc' => by
        rcases List.mem_append.1 hc' with h | h
        · exact hc c h
        · rw [List.mem_singleton.1 h]; exact ht)
      refine ⟨l', a1, a2, ?_⟩
      rw [← a3]
      simp only [loopN, d6_L4, lt, shr, dlt h1, h2, dge0, Bool.and_self, if_true, Int.toNat_natCast, hch, e, Bool.false_eq_true, if_false, d6_K3, List.length_cons, List.length_nil, Nat.zero_add, ef, d6_K2, wr1 (show i < 4611686018427387904 by omega)]
    · have e : decide (((ch.2.2.1.length : Nat) : Int) > 70) = true := decide_eq_true (by omega)
      have e70 : decide (70 ≤ ch.2.2.1.length) = true := decide_eq_true (by omega)
      obtain ⟨l', a1, a2, a3⟩ := ih (i + 1) k (l ++ [(ch.1, (ch.2.1, ((List.drop 0 (List.take 70 ch.2.2.1)), ch.2.2.2)))]) (by omega) (by omega) (by simp [hl]) (fun c hc' => by
        rcases List.mem_append.1 hc' with h | h
        · exact hc c h
        · rw [List.mem_singleton.1 h]; simp; omega)
      refine ⟨l', a1, a2, ?_⟩
      rw [← a3]
      simp only [loopN, d6_L4, lt, shr, dlt h1, h2, dge0, Bool.and_self, if_true, Int.toNat_natCast, hch, e, t70, q70, q0, e70, d6_K3, List.length_cons, List.length_nil, Nat.zero_add, ef, d6_K2, wr1 (show i < 4611686018427387904 by omega)]
theorem trimmed_ok (im : IM) (k : Nat) (hk : 70 < k) : ∃ im', Small im' ∧ d6 k (im, ()) = some ((im', ()), ()) := by
  have k5 : ∀ im2 z : IM, im2.1.length ≤ 40 → im2.2.1.length ≤ 70 → ∃ im', Small im' ∧ d6_K5 k ((im2, (z, ())), ()) = some ((im', ()), ()) := by
    intro im2 z h1 h2
    obtain ⟨l', a1, a2, a3⟩ := d6_loop im2 z (min im2.2.2.1.length 70) 0 k [] (by omega) (by omega) rfl (by simp)
    refine ⟨(im2.1, (im2.2.1, (l', im2.2.2.2))), ⟨h1, h2, a1, a2⟩, ?_⟩
    simp only [d6_K5, shr]
    exact a3
  have k6 : ∀ im1 z : IM, im1.1.length ≤ 40 → ∃ im', Small im' ∧ d6_K6 k ((im1, (z, ())), ()) = some ((im', ()), ()) := by
    intro im1 z h1
    by_cases h : im1.2.1.length ≤ 70
    · obtain ⟨im', b1, b2⟩ := k5 im1 z h1 h
      refine ⟨im', b1, ?_⟩
      have e : decide (((im1.2.1.length : Nat) : Int) > 70) = false := decide_eq_false (by omega)
      simp only [d6_K6, lt, shr, e, Bool.false_eq_true, if_false]
      exact b2
    · have e : decide (((im1.2.1.length : Nat) : Int) > 70) = true := decide_eq_true (by omega)
      have e70 : decide (70 ≤ im1.2.1.length) = true := decide_eq_true (by omega)
      obtain ⟨im', b1, b2⟩ := k5 (im1.1, ((List.drop 0 (List.take 70 im1.2.1)), im1.2.2)) z h1 (by simp; omega)
      refine ⟨im', b1, ?_⟩
      simp only [d6_K6, lt, shr, e, if_true, t70, q70, q0, e70, Bool.and_self]
      exact b2
  by_cases h : im.1.length ≤ 40
  · obtain ⟨im', b1, b2⟩ := k6 im ([], ([], ([], ()))) h
    refine ⟨im', b1, ?_⟩
    have e : decide (((im.1.length : Nat) : Int) > 40) = false := decide_eq_false (by omega)
    simp only [d6, lt, shr, e, Bool.false_eq_true, if_false]
    exact b2
  · have e : decide (((im.1.length : Nat) : Int) > 40) = true := decide_eq_true (by omega)
    have e40 : decide (40 ≤ im.1.length) = true := decide_eq_true (by omega)
    obtain ⟨im', b1, b2⟩ := k6 ((List.drop 0 (List.take 40 im.1)), im.2) ([], ([], ([], ()))) (by simp; omega)
    refine ⟨im', b1, ?_⟩
    simp only [d6, lt, shr, e, if_true, t40, q40, q0, e40, Bool.and_self]
    exact b2

/-! ### the law's loops -/
theorem d4_trans {n : Nat} (hn : n ≤ 40) {R D : BM} {im : IM} (hR : Sq n R) {part : Int} {i j : Nat} (hi : i < n) (hj : j < n) (htr : ∀ c, c < n → gt R i j = true → gt R j c = true → gt R i c = true) (K : (BM × BM × IM × Unit) × Int × Int × Int × Int × Unit → Option ((Bool × Unit) × Unit)) : ∀ m c k, c + m = n → m < k →
    loopN (d4_L14 K) k ((R, (D, (im, ()))), ((c : Int), ((i : Int), ((j : Int), ((n : Int), (part, ())))))) = K ((R, (D, (im, ()))), ((i : Int), ((n : Int), (part, ((j : Int), ()))))) := by
  intro m
  induction m with
  | zero =>
    intro c k hc hk
    obtain ⟨k, rfl⟩ : ∃ k', k = k' + 1 := ⟨k - 1, by omega⟩
    simp only [loopN, d4_L14, lt, dnlt (show n ≤ c by omega), Bool.false_eq_true, if_false]
  | succ m ih =>
    intro c k hc hk
    obtain ⟨k, rfl⟩ : ∃ k', k = k' + 1 := ⟨k - 1, by omega⟩
    have h1 : c < n := by omega
    have r1 := hR.row i hi
    have r2 := hR.row j hj
    have g1 : (R.getD i []).getD j false = gt R i j := rfl
    have g2 : (R.getD j []).getD c false = gt R j c := rfl
    have g3 : (R.getD i []).getD c false = gt R i c := rfl
    have hx : (if (if gt R i j = true then gt R j c else false) = true then !gt R i c else false) = false := by
      cases e1 : gt R i j with
      | false => rfl
      | true =>
        cases e2 : gt R j c with
        | false => rfl
        | true => rw [htr c h1 e1 e2]; rfl
    refine Eq.trans ?_ (ih (c + 1) k (by omega) (by omega))
    simp only [loopN, d4_L14, lt, shr, dlt h1, nlt h1, dlt hi, nlt hi, dlt hj, nlt hj, dge0, hR.len, r1, r2, g1, g2, g3, hx, Int.toNat_natCast, Bool.and_self, Bool.and_true, Bool.or_true, if_true, Bool.false_eq_true, if_false, d4_K13, wr1 (show c < 4611686018427387904 by omega)]
theorem d4_row {n : Nat} (hn : n ≤ 40) {R D : BM} {im : IM} (hD : Sq n D) (hM : Mid D n n R) {part : Int} {i : Nat} (hi : i < n) (k0 : Nat) (hk0 : 40 < k0) (K : (BM × BM × IM × Unit) × Int × Int × Int × Unit → Option ((Bool × Unit) × Unit)) : ∀ m j k, j + m = n → m < k →
    loopN (d4_L15 k0 K) k ((R, (D, (im, ()))), ((i : Int), ((j : Int), ((n : Int), (part, ()))))) = K ((R, (D, (im, ()))), ((n : Int), (part, ((i : Int), ())))) := by
  intro m
  induction m with
  | zero =>
    intro j k hj hk
    obtain ⟨k, rfl⟩ : ∃ k', k = k' + 1 := ⟨k - 1, by omega⟩
    simp only [loopN, d4_L15, lt, dnlt (show n ≤ j by omega), Bool.false_eq_true, if_false]
  | succ m ih =>
    intro j k hj hk
    obtain ⟨k, rfl⟩ : ∃ k', k = k' + 1 := ⟨k - 1, by omega⟩
    have h1 : j < n := by omega
    have r1 := hD.row i hi
    have r2 := hM.sq.row i hi
    have g1 : (D.getD i []).getD j false = gt D i j := rfl
    have g2 : (R.getD i []).getD j false = gt R i j := rfl
    have hx : (if gt D i j = true then !gt R i j else false) = false := by
      split
      · rename_i h; rw [hM.has i j hi h1 h]; rfl
      · rfl
    refine Eq.trans ?_ (ih (j + 1) k (by omega) (by omega))
    simp only [loopN]
    rw [show d4_L15 k0 K (loopN (d4_L15 k0 K) k) ((R, (D, (im, ()))), ((i : Int), ((j : Int), ((n : Int), (part, ()))))) = _ from by
      simp only [d4_L15, lt, shr, dlt h1, nlt h1, dlt hi, nlt hi, dge0, hD.len, hM.sq.len, r1, r2, g1, g2, hx, Int.toNat_natCast, Bool.and_self, Bool.and_true, Bool.or_true, if_true, Bool.false_eq_true, if_false]
      exact d4_trans hn hM.sq hi h1 (fun c hc h h2 => hM.thru i c j hi hc h1 h h2) _ n 0 k0 (by omega) (by omega)]
    simp only [d4_K12, d4_K11, wr1 (show j < 4611686018427387904 by omega)]
theorem d4_all {n : Nat} (hn : n ≤ 40) {R D : BM} {im : IM} (hD : Sq n D) (hM : Mid D n n R) {part : Int} (k0 : Nat) (hk0 : 40 < k0) (K : (BM × BM × IM × Unit) × Int × Int × Unit → Option ((Bool × Unit) × Unit)) : ∀ m i k, i + m = n → m < k →
    loopN (d4_L16 k0 K) k ((R, (D, (im, ()))), ((i : Int), ((n : Int), (part, ())))) = K ((R, (D, (im, ()))), (part, ((n : Int), ()))) := by
  intro m
  induction m with
  | zero =>
    intro i k hi hk
    obtain ⟨k, rfl⟩ : ∃ k', k = k' + 1 := ⟨k - 1, by omega⟩
    simp only [loopN, d4_L16, lt, dnlt (show n ≤ i by omega), Bool.false_eq_true, if_false]
  | succ m ih =>
    intro i k hi hk
    obtain ⟨k, rfl⟩ : ∃ k', k = k' + 1 := ⟨k - 1, by omega⟩
    have h1 : i < n := by omega
    have r1 := hD.row i h1
    have r2 := hM.sq.row i h1
    have g2 : (R.getD i []).getD i false = gt R i i := rfl
    refine Eq.trans ?_ (ih (i + 1) k (by omega) (by omega))
    simp only [loopN]
    rw [show d4_L16 k0 K (loopN (d4_L16 k0 K) k) ((R, (D, (im, ()))), ((i : Int), ((n : Int), (part, ())))) = _ from by
      simp only [d4_L16, lt, shr, dlt h1, nlt h1, dge0, hD.len, hM.sq.len, r1, r2, g2, hM.diag i h1, bne_self_eq_false, Int.toNat_natCast, Bool.and_self, Bool.and_true, Bool.or_true, Bool.not_true, if_true, Bool.false_eq_true, if_false]
      exact d4_row hn hD hM h1 k0 hk0 _ n 0 k0 (by omega) (by omega)]
    simp only [d4_K10, d4_K9, wr1 (show i < 4611686018427387904 by omega)]
theorem d4_forced {n : Nat} (hn : n ≤ 40) {R D : BM} {im : IM} (hD : Sq n D) (hM : Mid D n n R) {part : Int} (k0 : Nat) (hk0 : 40 < k0) (K : (BM × IM × Unit) × Int × Int × Unit → Option ((Bool × Unit) × Unit)) : ∀ m i k, i + m = n → m < k →
    loopN (d4_L7 k0 K) k ((R, (D, (im, ()))), ((i : Int), (part, ((n : Int), ())))) = K ((R, (im, ())), (part, ((n : Int), ()))) := by
  intro m
  induction m with
  | zero =>
    intro i k hi hk
    obtain ⟨k, rfl⟩ : ∃ k', k = k' + 1 := ⟨k - 1, by omega⟩
    simp only [loopN, d4_L7, lt, dnlt (show n ≤ i by omega), Bool.false_eq_true, if_false]
  | succ m ih =>
    intro i k hi hk
    obtain ⟨k, rfl⟩ : ∃ k', k = k' + 1 := ⟨k - 1, by omega⟩
    have h1 : i < n := by omega
    refine Eq.trans ?_ (ih (i + 1) k (by omega) (by omega))
    simp only [loopN, d4_L7, lt, shr, dlt h1, if_true, forced_ok hn hD hM h1 k0 hk0, Option.bind_some, Bool.not_true, Bool.false_eq_true, if_false, d4_K6, wr1 (show i < 4611686018427387904 by omega)]
theorem d4_list {n p : Nat} (hn : n ≤ 40) (hp : p < n) {part e : Int} (hpart : part = (p : Int) + 1) {R : BM} (hR : Sq n R) (l : List Int) (hl : l.length ≤ 40) (K : (List Int × Unit) × Int × Int × Unit → Option ((Bool × Unit) × Unit)) : ∀ m i c k, i + m = n → m < k → c ≤ l.length → l.drop c = srcL R p m i →
    loopN (d4_L4 K) k ((l, (R, ())), ((i : Int), ((c : Int), (part, (e, ((n : Int), ())))))) = K ((l, ()), ((l.length : Int), (e, ()))) := by
  intro m
  induction m with
  | zero =>
    intro i c k hi hk hc hd
    obtain ⟨k, rfl⟩ : ∃ k', k = k' + 1 := ⟨k - 1, by omega⟩
    have : l.length ≤ c := by
      have := congrArg List.length hd
      simp [srcL] at this
      omega
    obtain rfl : c = l.length := by omega
    simp only [loopN, d4_L4, lt, dnlt (show n ≤ i by omega), Bool.false_eq_true, if_false]
  | succ m ih =>
    intro i c k hi hk hc hd
    obtain ⟨k, rfl⟩ : ∃ k', k = k' + 1 := ⟨k - 1, by omega⟩
    have h1 : i < n := by omega
    have r1 := hR.row i h1
    have ep : IntKind.wrap .i64 (part - 1) = (p : Int) := by rw [wrI (by omega) (by omega)]; omega
    have g1 : (R.getD i []).getD p false = gt R i p := rfl
    cases hg : gt R i p with
    | true =>
      rw [srcL, if_pos hg] at hd
      have hlt : c < l.length := by
        have := congrArg List.length hd
        simp at this
        omega
      have hd' := hd
      rw [List.drop_eq_getElem_cons hlt] at hd'
      obtain ⟨he, hd2⟩ := List.cons.inj hd'
      have g2 : l.getD c 0 = ((i + 1 : Nat) : Int) := by
        rw [List.getD_eq_getElem?_getD, List.getElem?_eq_getElem hlt]; exact he
      have e1 : decide ((c : Int) ≥ (l.length : Int)) = false := decide_eq_false (by omega)
      refine Eq.trans ?_ (ih (i + 1) (c + 1) k (by omega) (by omega) (by omega) hd2)
      simp only [loopN, d4_L4, lt, shr, dlt h1, nlt h1, dlt hp, nlt hp, dlt hlt, nlt hlt, dge0, hR.len, r1, g1, hg, ep, e1, g2, bne_self_eq_false, Bool.and_self, Bool.and_true, Bool.or_true, if_true, Bool.false_eq_true, if_false, Int.toNat_natCast, d4_K3, d4_K2, wr1 (show i < 4611686018427387904 by omega), wr1 (show c < 4611686018427387904 by omega)]
    | false =>
      rw [srcL, if_neg (by rw [hg]; simp)] at hd
      refine Eq.trans ?_ (ih (i + 1) c k (by omega) (by omega) hc hd)
      simp only [loopN, d4_L4, lt, shr, dlt h1, nlt h1, dlt hp, nlt hp, dge0, hR.len, r1, g1, hg, ep, Bool.and_self, Bool.and_true, Bool.or_true, if_true, Bool.false_eq_true, if_false, Int.toNat_natCast, d4_K3, d4_K2, wr1 (show i < 4611686018427387904 by omega)]
theorem paths_true (im : IM) (part : Int) : ∃ k, d4 k (im, (part, ())) = some ((true, ()), ()) := by
  refine ⟨100, ?_⟩
  obtain ⟨x, hs, h6⟩ := trimmed_ok im 100 (by omega)
  obtain ⟨D, R, hD, h8, h9, hM⟩ := reach_ok hs 100 (by omega)
  have hn := hs.n
  generalize hN : x.1.length = n at hn hD hM
  have hw : d24 100 () = some ((true, ()), ()) := works_true 70
  have fin : d4_K5 100 ((R, (x, ())), (part, ((n : Int), ()))) = some ((true, ()), ()) := by
    by_cases hp : 1 ≤ part ∧ part ≤ (n : Int)
    · obtain ⟨p, rfl⟩ : ∃ p : Nat, part = (p : Int) + 1 := ⟨(part - 1).toNat, by omega⟩
      have hp' : p < n := by omega
      have h12 := sources_yes hs 100 (by omega) (p := p) (by omega) h9 (by rw [hN]; exact hM.sq)
      rw [hN] at h12
      have e1 : decide ((p : Int) + 1 < 1) = false := decide_eq_false (by omega)
      have e2 : decide ((p : Int) + 1 > (n : Int)) = false := decide_eq_false (by omega)
      have hl := srcL_len R p n 0
      have := d4_list (e := 0) hn hp' rfl hM.sq (srcL R p n 0) (by omega) (d4_K1 100) n 0 0 100 (by omega) (by omega) (Nat.zero_le _) rfl
      simp only [d4_K5, h12, Option.bind_some, lt, shr, e1, e2, Bool.false_eq_true, if_false]
      rw [show ((0 : Int)) = ((0 : Nat) : Int) from rfl]
      refine this.trans ?_
      simp only [d4_K1, lt, beq_self_eq_true, if_true, Bool.and_self, hw, Option.bind_some]
    · have h12 := sources_no (im := x) 100 part (by rw [hN]; exact hp)
      have e : (if decide (part < 1) = true then true else decide (part > (n : Int))) = true := by
        by_cases h : part < 1
        · simp [h]
        · have : part > (n : Int) := by omega
          simp [h, this]
      simp only [d4_K5, h12, Option.bind_some, lt, shr, e, if_true, beq_self_eq_true, List.length_nil, hw, Bool.and_self]
      rfl
  simp only [d4, h6, h8, h9, Option.bind_some, lt, shr, hN, hD.len, hM.sq.len, bne_self_eq_false, Bool.false_eq_true, if_false]
  rw [show ((0 : Int)) = ((0 : Nat) : Int) from rfl, d4_all hn hD hM 100 (by omega) _ n 0 100 (by omega) (by omega)]
  simp only [d4_K8, shr]
  rw [show ((0 : Int)) = ((0 : Nat) : Int) from rfl, d4_forced hn hD hM 100 (by omega) _ n 0 100 (by omega) (by omega)]
  exact fin
end Go.Proofs.YtledeaknnihlmaaDoor.L
