import Derived.Test.YtledeaknnihlmaaDoorFlN2
namespace Go.Proofs.YtledeaknnihlmaaDoor.L
open Go Go.Lift
set_option linter.unusedVariables false
set_option linter.unusedSimpArgs false
set_option maxRecDepth 100000

theorem trimmed_ok2 (im : IM) (k : Nat) (hk : 70 < k) : ∃ im', Small im' ∧ (∀ p ∈ im'.1, p ∈ im.1) ∧ d6 k (im, ()) = some ((im', ()), ()) := by
  have k5 : ∀ im2 z : IM, im2.1.length ≤ 40 → im2.2.1.length ≤ 70 → ∃ im', Small im' ∧ im'.1 = im2.1 ∧ d6_K5 k ((im2, (z, ())), ()) = some ((im', ()), ()) := by
    intro im2 z h1 h2
    obtain ⟨l', a1, a2, a3⟩ := d6_loop im2 z (min im2.2.2.1.length 70) 0 k [] (by omega) (by omega) rfl (by simp)
    refine ⟨(im2.1, (im2.2.1, (l', im2.2.2.2))), ⟨h1, h2, a1, a2⟩, rfl, ?_⟩
    simp only [d6_K5, shr]
    exact a3
  have k6 : ∀ im1 z : IM, im1.1.length ≤ 40 → ∃ im', Small im' ∧ im'.1 = im1.1 ∧ d6_K6 k ((im1, (z, ())), ()) = some ((im', ()), ()) := by
    intro im1 z h1
    by_cases h : im1.2.1.length ≤ 70
    · obtain ⟨im', b1, b0, b2⟩ := k5 im1 z h1 h
      refine ⟨im', b1, b0, ?_⟩
      have e : decide (((im1.2.1.length : Nat) : Int) > 70) = false := decide_eq_false (by omega)
      simp only [d6_K6, lt, shr, e, Bool.false_eq_true, if_false]
      exact b2
    · have e : decide (((im1.2.1.length : Nat) : Int) > 70) = true := decide_eq_true (by omega)
      have e70 : decide (70 ≤ im1.2.1.length) = true := decide_eq_true (by omega)
      obtain ⟨im', b1, b0, b2⟩ := k5 (im1.1, ((List.drop 0 (List.take 70 im1.2.1)), im1.2.2)) z h1 (by simp; omega)
      refine ⟨im', b1, b0, ?_⟩
      simp only [d6_K6, lt, shr, e, if_true, t70, q70, q0, e70, Bool.and_self]
      exact b2
  by_cases h : im.1.length ≤ 40
  · obtain ⟨im', b1, b0, b2⟩ := k6 im ([], ([], ([], ()))) h
    refine ⟨im', b1, fun p hp => by rw [b0] at hp; exact hp, ?_⟩
    have e : decide (((im.1.length : Nat) : Int) > 40) = false := decide_eq_false (by omega)
    simp only [d6, lt, shr, e, Bool.false_eq_true, if_false]
    exact b2
  · have e : decide (((im.1.length : Nat) : Int) > 40) = true := decide_eq_true (by omega)
    have e40 : decide (40 ≤ im.1.length) = true := decide_eq_true (by omega)
    obtain ⟨im', b1, b0, b2⟩ := k6 ((List.drop 0 (List.take 40 im.1)), im.2) ([], ([], ([], ()))) (by simp; omega)
    refine ⟨im', b1, fun p hp => by rw [b0] at hp; exact List.mem_of_mem_take (by simpa using hp), ?_⟩
    simp only [d6, lt, shr, e, if_true, t40, q40, q0, e40, Bool.and_self]
    exact b2

theorem srcL_mem (R : BM) (p : Nat) : ∀ m i s, s ∈ srcL R p m i → ∃ q : Nat, i ≤ q ∧ q < i + m ∧ s = (q : Int) + 1
  | 0, i, s, h => by simp [srcL] at h
  | m + 1, i, s, h => by
    simp only [srcL] at h
    split at h
    · rcases List.mem_cons.1 h with rfl | h
      · exact ⟨i, Nat.le_refl _, by omega, by omega⟩
      · obtain ⟨q, h1, h2, h3⟩ := srcL_mem R p m (i + 1) s h
        exact ⟨q, by omega, by omega, h3⟩
    · obtain ⟨q, h1, h2, h3⟩ := srcL_mem R p m (i + 1) s h
      exact ⟨q, by omega, by omega, h3⟩
theorem getD_any {α : Type} (l : List α) (i : Nat) (h : i < l.length) (d d' : α) : l.getD i d = l.getD i d' := by
  simp [List.getD_eq_getElem?_getD, List.getElem?_eq_getElem h]
theorem getD_mem {α : Type} (l : List α) (i : Nat) (h : i < l.length) (d : α) : l.getD i d ∈ l := by
  rw [List.getD_eq_getElem?_getD, List.getElem?_eq_getElem h]; exact List.getElem_mem h
theorem all_any (o : Int) : ∀ l : List Int, l.all (fun s => !(s == o)) = !(l.any (fun s => s == o))
  | [] => rfl
  | x :: l => by simp only [List.all_cons, List.any_cons, all_any o l, Bool.not_or]

theorem d5_loop (x : IM) (wi : PA) (other e part : Int) (l : List Int) (hl : l.length ≤ 40) (K : (IM × PA × Unit) × Bool × Int × Int × Int × Unit → Option ((Bool × Unit) × Unit)) : ∀ m i k (src : Bool), i + m = l.length → m < k →
    loopN (d5_L4 K) k ((l, (x, (wi, ()))), ((i : Int), (other, (src, (e, (part, ())))))) = K ((x, (wi, ())), ((src || (l.drop i).any fun s => s == other), (e, (part, (other, ()))))) := by
  intro m
  induction m with
  | zero =>
    intro i k src hi hk
    obtain ⟨k, rfl⟩ : ∃ k', k = k' + 1 := ⟨k - 1, by omega⟩
    rw [List.drop_eq_nil_of_le (by omega)]
    simp only [loopN, d5_L4, lt, dnlt (show l.length ≤ i by omega), Bool.false_eq_true, if_false, List.any_nil, Bool.or_false]
  | succ m ih =>
    intro i k src hi hk
    obtain ⟨k, rfl⟩ : ∃ k', k = k' + 1 := ⟨k - 1, by omega⟩
    have h1 : i < l.length := by omega
    have g1 : l.getD i 0 = l[i] := by rw [List.getD_eq_getElem?_getD, List.getElem?_eq_getElem h1]; rfl
    have hs : (if src = true then true else l[i] == other) = (src || l[i] == other) := by cases src <;> rfl
    rw [List.drop_eq_getElem_cons h1, List.any_cons, ← Bool.or_assoc, ← ih (i + 1) k (src || l[i] == other) (by omega) (by omega)]
    simp only [loopN, d5_L4, lt, shr, dlt h1, nlt h1, dge0, Bool.and_self, Bool.and_true, Bool.or_true, if_true, Int.toNat_natCast, g1, hs, d5_K3, wr1 (show i < 4611686018427387904 by omega)]

theorem others_fin {k : Nat} (hk : 100 ≤ k) {x : IM} (hs : Small x) (hB : ∀ p ∈ x.1, PB k p) {p o : Nat} (hp : p < x.1.length) (ho : o < x.1.length) {R : BM} (h9 : d9 k (x, ()) = some ((R, ()), ())) (hR : Sq x.1.length R)
    (P p' : PA) (hP : ∀ d, x.1.getD o d = P) (hsv : p'.1 = P.1) {src : Bool} (hsrc : ((srcL R p x.1.length 0).any fun s => s == ((o : Int) + 1)) = src)
    (hne : src = true → d49 k (P, (p', ())) = some ((false, ()), ()) ∧ d49 k (p', (P, ())) = some ((false, ()), ())) :
    d5_K1 k ((x, (x, (x.1.set o p', ()))), (src, (0, ((p : Int) + 1, ())))) = some ((true, ()), ()) := by
  have hn := hs.n
  generalize hN : x.1.length = n at *
  have h12 := sources_yes hs k (by omega) (p := p) (by omega) h9 (by rw [hN]; exact hR)
  rw [hN] at h12
  have hlen : (srcL R p n 0).length ≤ 40 := Nat.le_trans (srcL_len R p n 0) hn
  generalize hl : srcL R p n 0 = l at *
  have hmem : ∀ s ∈ l, ∃ q : Nat, q < n ∧ s = (q : Int) + 1 := fun s h => by
    rw [← hl] at h
    obtain ⟨q, _, h2, h3⟩ := srcL_mem R p n 0 s h
    exact ⟨q, by omega, h3⟩
  have hset : ∀ q d, (x.1.set o p').getD q d = if q = o then p' else x.1.getD q d := fun q d => getD_set _ _ _ _ _ (by omega)
  have refl : ∀ q, q < n → ∀ d, d49 k (x.1.getD q d, (x.1.getD q d, ())) = some ((true, ()), ()) := fun q hq d => e49 (hB _ (getD_mem _ _ (by omega) _))
  have hys : Small (x.1.set o p', x.2) := ⟨by simp [hN]; omega, hs.p, hs.c, hs.t⟩
  have hyl : (x.1.set o p').length = x.1.length := by simp
  have h9y : d9 k ((x.1.set o p', x.2), ()) = some ((R, ()), ()) := by rw [reach_same hs _ hyl k (by omega)]; exact h9
  have h12y := sources_yes hys k (by omega) (p := p) (by show p < (x.1.set o p').length; omega) h9y (by show Sq (x.1.set o p').length R; rw [hyl, hN]; exact hR)
  have hly : srcL R p (x.1.set o p').length 0 = l := by rw [hyl, hN]; exact hl
  have h12y : d12 k ((x.1.set o p', x.2), ((p : Int) + 1, ())) = some ((l, (0, ())), ()) := by rw [← hly]; exact h12y
  have hal : ∀ s ∈ l, ∀ q : Nat, s = (q : Int) + 1 → ((s == (o : Int) + 1) = true ↔ q = o) := fun s _ q hq => by
    rw [beq_iff_eq]; omega
  have hany : ∀ s ∈ l, (s == (o : Int) + 1) = true → src = true := fun s h1 h2 => by
    rw [← hsrc, List.any_eq_true]; exact ⟨s, h1, h2⟩
  have A1 := alike_ok (k := k) (by omega) (a := x) (b := x) hs rfl rfl (fun i hi d => rfl) h12 hlen (fun _ => true) (fun s h => by
    obtain ⟨q, hq, e⟩ := hmem s h
    exact ⟨q, by omega, e, refl q hq⟩)
  have A2 := alike_ok (k := k) (by omega) (a := x) (b := (x.1.set o p', x.2)) hs hyl rfl (fun i hi d => by
    show (x.1.getD i d).1 = ((x.1.set o p').getD i d).1
    rw [hset]
    split
    · rename_i e; rw [e, hP, hsv]
    · rfl) h12 hlen (fun s => !(s == (o : Int) + 1)) (fun s h => by
    obtain ⟨q, hq, e⟩ := hmem s h
    refine ⟨q, by omega, e, fun d => ?_⟩
    show d49 k (x.1.getD q d, ((x.1.set o p').getD q d, ())) = _
    rw [hset]
    by_cases eq : q = o
    · have h2 := (hal s h q e).2 eq
      rw [if_pos eq, h2, eq, hP]
      exact (hne (hany s h h2)).1
    · have h2 : (s == (o : Int) + 1) = false := by
        cases hb : (s == (o : Int) + 1) with
        | false => rfl
        | true => exact absurd ((hal s h q e).1 hb) eq
      rw [if_neg eq, h2]
      exact refl q hq d)
  have A3 := alike_ok (k := k) (by omega) (a := (x.1.set o p', x.2)) (b := x) hys hyl.symm rfl (fun i hi d => by
    show ((x.1.set o p').getD i d).1 = (x.1.getD i d).1
    rw [hset]
    split
    · rename_i e; rw [e, hP, hsv]
    · rfl) h12y hlen (fun s => !(s == (o : Int) + 1)) (fun s h => by
    obtain ⟨q, hq, e⟩ := hmem s h
    refine ⟨q, by show q < (x.1.set o p').length; omega, e, fun d => ?_⟩
    show d49 k ((x.1.set o p').getD q d, (x.1.getD q d, ())) = _
    rw [hset]
    by_cases eq : q = o
    · have h2 := (hal s h q e).2 eq
      rw [if_pos eq, h2, eq, hP]
      exact (hne (hany s h h2)).2
    · have h2 : (s == (o : Int) + 1) = false := by
        cases hb : (s == (o : Int) + 1) with
        | false => rfl
        | true => exact absurd ((hal s h q e).1 hb) eq
      rw [if_neg eq, h2]
      exact refl q hq d)
  have hall : l.all (fun _ => true) = true := by simp
  rw [all_any, hsrc] at A2 A3
  rw [hall] at A1
  have hw : d24 k () = some ((true, ()), ()) := by
    have := works_true (k - 30)
    rwa [Nat.sub_add_cancel (by omega)] at this
  simp only [d5_K1, A1, A2, A3, Option.bind_some, lt, beq_self_eq_true, if_true, Bool.and_self, hw]

theorem others_ok {k : Nat} (hk : 100 ≤ k) (im : IM) (hB : ∀ p ∈ im.1, PB k p) (part other : Int) (wi : PA) : d5 k (im, (part, (other, (wi, ())))) = some ((true, ()), ()) := by
  obtain ⟨x, hs, hsub, h6⟩ := trimmed_ok2 im k (by omega)
  have hn := hs.n
  have hw : d24 k () = some ((true, ()), ()) := by
    have := works_true (k - 30)
    rwa [Nat.sub_add_cancel (by omega)] at this
  by_cases hin : (1 ≤ part ∧ part ≤ (x.1.length : Int)) ∧ (1 ≤ other ∧ other ≤ (x.1.length : Int))
  · obtain ⟨hp, ho⟩ := hin
    obtain ⟨p, rfl⟩ : ∃ p : Nat, part = (p : Int) + 1 := ⟨(part - 1).toNat, by omega⟩
    obtain ⟨o, rfl⟩ : ∃ o : Nat, other = (o : Int) + 1 := ⟨(other - 1).toNat, by omega⟩
    have hp' : p < x.1.length := by omega
    have ho' : o < x.1.length := by omega
    obtain ⟨D, R, hD, h8, h9, hM⟩ := reach_ok hs k (by omega)
    have h12 := sources_yes hs k (by omega) hp' h9 hM.sq
    have hlen : (srcL R p x.1.length 0).length ≤ 40 := Nat.le_trans (srcL_len R p _ 0) hn
    have e1 : decide ((p : Int) + 1 < 1) = false := decide_eq_false (by omega)
    have e2 : decide ((p : Int) + 1 > (x.1.length : Int)) = false := decide_eq_false (by omega)
    have e3 : decide ((o : Int) + 1 < 1) = false := decide_eq_false (by omega)
    have e4 : decide ((o : Int) + 1 > (x.1.length : Int)) = false := decide_eq_false (by omega)
    have eo : IntKind.wrap .i64 ((o : Int) + 1 - 1) = (o : Int) := by rw [wrI (by omega) (by omega)]; omega
    have ef : appFits 0 x.1.length 264 = true := by simp [appFits]; omega
    have hloop := d5_loop x wi ((o : Int) + 1) 0 ((p : Int) + 1) (srcL R p x.1.length 0) hlen (d5_K2 k) (srcL R p x.1.length 0).length 0 k false (by omega) (by omega)
    generalize hsrc : ((srcL R p x.1.length 0).any fun s => s == ((o : Int) + 1)) = src at hloop
    have hd : d5 k (im, ((p : Int) + 1, ((o : Int) + 1, (wi, ())))) = d5_K2 k ((x, (wi, ())), (src, (0, ((p : Int) + 1, ((o : Int) + 1, ()))))) := by
      simp only [d5, h6, Option.bind_some, lt, shr, e1, e2, e3, e4, Bool.false_eq_true, if_false, h12]
      rw [show ((0 : Int)) = ((0 : Nat) : Int) from rfl] at hloop ⊢
      refine hloop.trans ?_
      rw [List.drop_zero, hsrc, Bool.false_or]
    rw [hd]
    generalize hP0 : (x.1.getD o (((0 : Int), ((0 : Int), ((0 : Int), ((0 : Int), ())))), ((0 : Int), ((0 : Int), (([] : List Int), (([] : List (Int × (Int × (Int × (Int × (Int × Unit)))))), (([] : List (Int × (Int × (Int × (Int × (Int × (Bool × Unit))))))), ((0 : Int), ((List.replicate (8 : Nat) (0 : Int)), (([] : List (Int × (Int × Unit))), (([] : List Bool), (([] : List (Int × (Int × Unit))), ()))))))))))) : PA) = P
    have hP : ∀ d, x.1.getD o d = P := fun d => by rw [← hP0]; exact getD_any _ _ ho' _ _
    have hPB : PB k P := by rw [← hP0]; exact hB _ (hsub _ (getD_mem _ _ ho' _))
    have hBx : ∀ q ∈ x.1, PB k q := fun q hq => hB q (hsub q hq)
    cases src with
    | true =>
      have c1 : appFits 0 P.2.2.2.2.1.length 8 = true := by have := hPB.fc.2; simp [appFits]; omega
      have c2 : appFits P.2.2.2.2.1.length 1 8 = true := fit1 (by have := hPB.fc.2; omega) (by have := hPB.fc.2; omega)
      have := others_fin hk hs hBx hp' ho' h9 hM.sq P (P.1, (P.2.1, (P.2.2.1, (P.2.2.2.1, (P.2.2.2.2.1 ++ [((1 : Int), ((0 : Int), ((0 : Int), ((0 : Int), ((0 : Int), ())))))], P.2.2.2.2.2))))) hP rfl hsrc (fun _ => e49_ne hPB _ (by simp))
      simp only [d5_K2, ef, if_true, shr, lt, eo, dge0, dlt ho', nlt ho', Bool.and_self, Bool.and_true, Int.toNat_natCast, hP, c1, c2, List.length_cons, List.length_nil, Nat.zero_add]
      exact this
    | false =>
      have := others_fin hk hs hBx hp' ho' h9 hM.sq P (P.1, wi.2) hP rfl hsrc (fun h => by cases h)
      simp only [d5_K2, ef, if_true, shr, lt, eo, dge0, dlt ho', nlt ho', Bool.and_self, Bool.and_true, Int.toNat_natCast, hP, Bool.false_eq_true, if_false]
      exact this
  · have e : (if (if (if decide (part < 1) = true then true else decide (part > (x.1.length : Int))) = true then true else decide (other < 1)) = true then true else decide (other > (x.1.length : Int))) = true := by
      by_cases h1 : part < 1
      · simp [h1]
      · by_cases h2 : part > (x.1.length : Int)
        · simp [h2]
        · by_cases h3 : other < 1
          · simp [h3]
          · have : other > (x.1.length : Int) := by omega
            simp [this]
    simp only [d5, h6, Option.bind_some, lt, e, if_true, hw]
end Go.Proofs.YtledeaknnihlmaaDoor.L
