import Derived.Test.YtekgngedamnmaaaGreatDoorAgX3
namespace Go.Proofs.YtekgngedamnmaaaGreatDoor.L
open Go Go.Lift
set_option linter.unusedVariables false
set_option linter.unusedSimpArgs false
set_option maxRecDepth 100000

abbrev kWC : Kt := .pair (.int .i64) (.pair (.int .i64) (.pair (.win (.sl 3 (.int .i64))) kI2))
abbrev kPQ : Kt := .pair (.int .i64) (.pair (.int .i64) (.pair .bool (.pair (.int .i64) kI2)))
abbrev kWI : Kt := .pair (.win (.sl 64 kWP)) (.pair (.win (.sl 41 kPQ)) (.pair (.win (.sl 34 kWC)) .unit))
def sP (p : WP) : PT := (p.1, (p.2.1, (p.2.2.1, (Vw p.2.2.2.1, (Vw p.2.2.2.2.1, (Vw p.2.2.2.2.2.1, (p.2.2.2.2.2.2.1, (p.2.2.2.2.2.2.2.1, (Vw p.2.2.2.2.2.2.2.2.1, (Vw p.2.2.2.2.2.2.2.2.2.1, (Vw p.2.2.2.2.2.2.2.2.2.2.1, ())))))))))))
def sC (c : WC) : CH := (c.1, (c.2.1, (Vw c.2.2.1, c.2.2.2)))
def sI (x : WI) : IM := ((Vw x.1).map sP, (Vw x.2.1, ((Vw x.2.2.1).map sC, ())))
theorem idI : (stripD (.int .i64)) = id := rfl
theorem idB : (stripD .bool) = id := rfl
theorem idS : (stripD kIS) = id := rfl
theorem idC : (stripD kPC) = id := rfl
theorem id2 : (stripD kI2) = id := rfl
theorem idQ : (stripD kPQ) = id := rfl
theorem sP_eq : stripD kWP = sP := by
  funext p
  show ((p.1, (p.2.1, (p.2.2.1, (List.map (stripD (.int .i64)) (Vw p.2.2.2.1), (List.map (stripD kIS) (Vw p.2.2.2.2.1), (List.map (stripD kPC) (Vw p.2.2.2.2.2.1), (p.2.2.2.2.2.2.1, (List.map (stripD (.int .i64)) p.2.2.2.2.2.2.2.1, (List.map (stripD kI2) (Vw p.2.2.2.2.2.2.2.2.1), (List.map (stripD .bool) (Vw p.2.2.2.2.2.2.2.2.2.1), (List.map (stripD kI2) (Vw p.2.2.2.2.2.2.2.2.2.2.1), ()))))))))))) : PT) = _
  rw [idI, idS, idC, id2, idB]
  simp only [List.map_id]
  rfl
theorem sC_eq : stripD kWC = sC := by
  funext c
  show ((c.1, (c.2.1, (List.map (stripD (.int .i64)) (Vw c.2.2.1), c.2.2.2))) : CH) = _
  rw [idI, List.map_id]; rfl
theorem sI_eq (x : WI) : stripD kWI x = sI x := by
  show ((List.map (stripD kWP) (Vw x.1), (List.map (stripD kPQ) (Vw x.2.1), (List.map (stripD kWC) (Vw x.2.2.1), ()))) : IM) = _
  rw [sP_eq, sC_eq, idQ, List.map_id]; rfl
theorem d5_K1_def (k : Nat) (y : WI) (a b : Int) : d5_K1 k ((y, ()), (a, (b, ()))) = Option.bind (d19 k (y, ())) fun x13 => Option.bind (d20 k (stripD kWI y, (stripD kWI x13.1.1, (b, (a, ()))))) fun x14 =>
    Option.bind (if ((x14.1.1 == true) && true) = true then d21 k (y, (x13.1.1, ())) else some ((false, ()), ())) fun x15 => some (((if x14.1.1 = true then x15.1.1 else false), ()), ()) := rfl
theorem d5_def (k : Nat) (x : WI) (a b : Int) : d5 k (x, (a, (b, ()))) = Option.bind (d19 k (x, ())) fun x2 => Option.bind (d15 k ()) fun x3 => lt (!x3.1.1) fun x4 =>
    Option.bind (if ((x4 == false) && true) = true then d20 k (stripD kWI x2.1.1, (stripD kWI x, (a, (b, ())))) else some ((false, ()), ())) fun x5 => lt (!x5.1.1) fun x6 => lt (if x4 = true then true else x6) fun x7 =>
    Option.bind (if ((x7 == false) && true) = true then d21 k (x2.1.1, (x, ())) else some ((false, ()), ())) fun x8 => lt (!x8.1.1) fun x9 => lt (if x7 = true then true else x9) fun x10 =>
    if x10 = true then some ((false, ()), ()) else shr (d5_K4 k) fun x11 => loopN (d5_L6 x11) k ((x2.1.1, ()), (0, (b, (a, ())))) := rfl
theorem vw_m {α : Type} (l : List α) (m : α) : Vw (l ++ [m], l.length) = l := take_mark l m
theorem sP_g (p : WP) : sP (gP p) = sP p := by
  simp only [sP, gP, vw_m]
theorem sC_g (c : WC) : sC (gC c) = sC c := by
  simp only [sC, gC, vw_m]
theorem sI_m (P : List WP) (Q : List PQ) (C : List WC) : sI (mI P Q C) = (P.map sP, (Q, (C.map sC, ()))) := by
  simp only [sI, mI, vw_m]
theorem sI_g (x : WI) : sI (gI x) = sI x := by
  rw [gI_eq, sI_m, List.map_map, List.map_map]
  have e1 : sP ∘ gP = sP := funext sP_g
  have e2 : sC ∘ gC = sC := funext sC_g
  rw [e1, e2]; rfl
/-- The image as it is changed. -/
def aI (x : WI) : WI := mI ((Vw x.1).map gP) ((Vw x.2.1).map fQ) (((Vw x.2.2.1).map gC).map fC)
structure Fu (k : Nat) (x : WI) : Prop where
  p : (Vw x.1).length < k
  q : (Vw x.2.1).length < k
  c : (Vw x.2.2.1).length < k
  ps : ∀ p, p ∈ Vw x.1 → FuP k p
  cs : ∀ c, c ∈ Vw x.2.2.1 → (Vw c.2.2.1).length < k
theorem a1 (x : WI) : Vw (aI x).1 = (Vw x.1).map gP := vw_m _ _
theorem a2 (x : WI) : Vw (aI x).2.1 = (Vw x.2.1).map fQ := vw_m _ _
theorem a3 (x : WI) : Vw (aI x).2.2.1 = ((Vw x.2.2.1).map gC).map fC := vw_m _ _
theorem RmP.g {p : WP} (h : RmP p) : RmP (gP p) := by
  obtain ⟨h1, h2, h3, h4, h5, h6⟩ := h
  have g := same_gP p
  exact ⟨by rw [g.i]; exact h1, by rw [g.c]; exact h2, by rw [g.r]; exact h3, by rw [g.s]; exact h4, by rw [g.e]; exact h5, by rw [g.b]; exact h6⟩
theorem FuP.g {k : Nat} {p : WP} (h : FuP k p) : FuP k (gP p) := by
  obtain ⟨h1, h2, h3, h4, h5, h6⟩ := h
  have g := same_gP p
  exact ⟨by rw [g.i]; exact h1, by rw [g.c]; exact h2, by rw [g.r]; exact h3, by rw [g.s]; exact h4, by rw [g.e]; exact h5, by rw [g.b]; exact h6⟩
theorem tC (c : WC) : Vw (fC (gC c)).2.2.1 = Vw c.2.2.1 := take_mark _ _
theorem RmI.a {x : WI} (h : RmI x) : RmI (aI x) := by
  refine ⟨by rw [a1, List.length_map]; exact h.p, by rw [a2, List.length_map]; exact h.q, by rw [a3, List.length_map, List.length_map]; exact h.c, fun p hp => ?_, fun c hc => ?_⟩
  · rw [a1] at hp
    obtain ⟨q, hq, rfl⟩ := List.mem_map.1 hp
    exact (h.ps q hq).g
  · rw [a3, List.map_map] at hc
    obtain ⟨d, hd, rfl⟩ := List.mem_map.1 hc
    show Rm (Vw (fC (gC d)).2.2.1).length 8
    rw [tC]
    exact h.cs d hd
theorem Fu.a {k : Nat} {x : WI} (h : Fu k x) : Fu k (aI x) := by
  refine ⟨by rw [a1, List.length_map]; exact h.p, by rw [a2, List.length_map]; exact h.q, by rw [a3, List.length_map, List.length_map]; exact h.c, fun p hp => ?_, fun c hc => ?_⟩
  · rw [a1] at hp
    obtain ⟨q, hq, rfl⟩ := List.mem_map.1 hp
    exact (h.ps q hq).g
  · rw [a3, List.map_map] at hc
    obtain ⟨d, hd, rfl⟩ := List.mem_map.1 hc
    show (Vw (fC (gC d)).2.2.1).length < k
    rw [tC]
    exact h.cs d hd
theorem getElem?_map_some {α β : Type} {f : α → β} {l : List α} {i : Nat} (h : i < l.length) : (l.map f)[i]? = some (f l[i]) := by
  rw [List.getElem?_map, List.getElem?_eq_getElem h]; rfl
/-- left of what given made. -/
theorem left_g (k : Nat) (x : WI) (hx : RmI x) (hf : Fu k x) : d21 k (gI x, (x, ())) = some ((true, ()), ()) := by
  rw [gI_eq]
  refine d21_eq k _ _ _ x hx (List.length_map ..) (fun i h h' => ?_) rfl (List.length_map ..) (fun i h => ⟨_, getElem?_map_some h, rfl, rfl, rfl, rfl⟩) hf.p hf.q hf.c hf.cs
  rw [List.getElem_map]
  exact d61_eq k _ _ (SameP.refl _) (hx.ps _ (List.getElem_mem h)) (hf.ps _ (List.getElem_mem h))
theorem left_a (k : Nat) (x : WI) (hx : RmI x) (hf : Fu k x) : d21 k (aI x, (gI (aI x), ())) = some ((true, ()), ()) := by
  have b1 : Vw (gI (aI x)).1 = (Vw (aI x).1).map gP := by rw [gI_eq]; exact vw_m _ _
  have b2 : Vw (gI (aI x)).2.1 = Vw (aI x).2.1 := by rw [gI_eq]; exact vw_m _ _
  have b3 : Vw (gI (aI x)).2.2.1 = (Vw (aI x).2.2.1).map gC := by rw [gI_eq]; exact vw_m _ _
  have hb1 : Vw (gI (aI x)).1 = ((Vw x.1).map gP).map gP := by rw [b1, a1]
  have hb3 : Vw (gI (aI x)).2.2.1 = (((Vw x.2.2.1).map gC).map fC).map gC := by rw [b3, a3]
  have hr : RmI (gI (aI x)) := by
    have ha := hx.a
    refine ⟨by rw [b1, List.length_map]; exact ha.p, by rw [b2]; exact ha.q, by rw [b3, List.length_map]; exact ha.c, fun p hp => ?_, fun c hc => ?_⟩
    · rw [b1] at hp
      obtain ⟨q, hq, rfl⟩ := List.mem_map.1 hp
      exact (ha.ps q hq).g
    · rw [b3] at hc
      obtain ⟨d, hd, rfl⟩ := List.mem_map.1 hc
      show Rm (Vw (gC d).2.2.1).length 8
      rw [show Vw (gC d).2.2.1 = Vw d.2.2.1 from take_mark _ _]
      exact ha.cs d hd
  have hfa := hf.a
  refine d21_eq k _ _ _ (gI (aI x)) hr (by rw [hb1]; simp) (fun i h h' => ?_) (by rw [b2, a2]) (by rw [hb3]; simp) (fun i h => ?_) (by rw [b1, List.length_map]; exact hfa.p) (by rw [b2]; exact hfa.q) (by rw [b3, List.length_map]; exact hfa.c) (fun c hc => ?_)
  · have hi : i < (Vw x.1).length := by simpa using h'
    have e2 : (Vw (gI (aI x)).1)[i] = gP (gP (Vw x.1)[i]) := by
      have : (Vw (gI (aI x)).1)[i]? = some (gP (gP (Vw x.1)[i])) := by
        rw [hb1, List.map_map, getElem?_map_some hi]; rfl
      rw [List.getElem?_eq_getElem h] at this
      exact Option.some.inj this
    rw [List.getElem_map, e2]
    exact d61_eq k _ _ ((same_gP _).trans (same_gP _)) (hx.ps _ (List.getElem_mem hi)) (hf.ps _ (List.getElem_mem hi))
  · have hi : i < (Vw x.2.2.1).length := by
      have := h
      rw [hb3] at this
      simpa using this
    have e2 : (Vw (gI (aI x)).2.2.1)[i] = gC (fC (gC (Vw x.2.2.1)[i])) := by
      have : (Vw (gI (aI x)).2.2.1)[i]? = some (gC (fC (gC (Vw x.2.2.1)[i]))) := by
        rw [hb3, List.map_map, List.map_map, getElem?_map_some hi]; rfl
      rw [List.getElem?_eq_getElem h] at this
      exact Option.some.inj this
    refine ⟨fC (Vw x.2.2.1)[i], ?_, ?_⟩
    · rw [List.map_map, getElem?_map_some hi]; rfl
    · rw [e2]
      exact ⟨rfl, rfl, (take_mark _ _).trans (take_mark _ _), rfl⟩
  · rw [b3] at hc
    obtain ⟨d, hd, rfl⟩ := List.mem_map.1 hc
    show (Vw (gC d).2.2.1).length < k
    rw [show Vw (gC d).2.2.1 = Vw d.2.2.1 from take_mark _ _]
    exact hfa.cs d hd
/-- **AgeExact's function answers true.** -/
theorem d5_eq (k : Nat) (hk : 1048600 < k) (x : WI) (hx : RmI x) (hf : Fu k x) (f1 : Fits k (sI x)) (f2 : Fits k (sI (aI x))) (a b : Int) : d5 k (x, (a, (b, ()))) = some ((true, ()), ()) := by
  have e0 := d20_eq k (sI x) f1 a b
  have tt : ((false == false) && true) = true := rfl
  have nt : (!true) = false := rfl
  rw [d5_def]
  simp only [d19_eq k x hx hf.p hf.c, lives hk, Option.bind_some, lt, sI_eq, sI_g, e0, nt, tt, if_true, Bool.false_eq_true, if_false, left_g k x hx hf, shr]
  have l1 := d5_qloop (d5_K4 k) ((Vw x.1).map gP ++ [mkP], ((Vw x.1).map gP).length) (Vw x.2.1) (((Vw x.2.2.1).map gC ++ [mkC]), ((Vw x.2.2.1).map gC).length) b a hx.q.lt (Vw x.2.1).length 0 k (by omega) hf.q
  have hcl : ((Vw x.2.2.1).map gC).length = (Vw x.2.2.1).length := List.length_map ..
  have l2 := d5_cloop (d5_K1 k) ((Vw x.1).map gP ++ [mkP], ((Vw x.1).map gP).length) ((Vw x.2.1).map fQ ++ [mkQ], (Vw x.2.1).length) ((Vw x.2.2.1).map gC) b a (by rw [hcl]; exact hx.c.lt) ((Vw x.2.2.1).map gC).length 0 k (by omega) (by rw [hcl]; exact hf.c)
  rw [List.take_zero, List.map_nil, List.nil_append, List.drop_zero] at l1 l2
  rw [gI_eq]
  refine Eq.trans l1 ?_
  simp only [d5_K4, shr]
  refine Eq.trans l2 ?_
  have ea : (((Vw x.1).map gP ++ [mkP], ((Vw x.1).map gP).length), (((Vw x.2.1).map fQ ++ [mkQ], (Vw x.2.1).length), ((((Vw x.2.2.1).map gC).map fC ++ [mkC], ((Vw x.2.2.1).map gC).length), ()))) = aI x := by
    unfold aI mI
    rw [List.length_map (f := fQ), List.length_map (f := fC)]
  rw [ea, d5_K1_def]
  have hxa := hx.a
  have hfa := hf.a
  simp only [d19_eq k (aI x) hxa hfa.p hfa.c, Option.bind_some, sI_eq, sI_g, d20_eq k (sI (aI x)) f2 a b, left_a k x hx hf, beq_self_eq_true, Bool.and_self, if_true]
end Go.Proofs.YtekgngedamnmaaaGreatDoor.L
