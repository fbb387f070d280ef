import Derived.Test.YtledeaknnihlmaaFaM9
namespace Go.Proofs.Ytledeaknnihlmaa.L
open Go Go.Lift
set_option linter.unusedVariables false
set_option linter.unusedSimpArgs false
set_option maxRecDepth 100000

/-- What is in sight. -/
abbrev Vw {α : Type} (z : List α × Nat) : List α := List.take z.2 z.1
/-- Room for a mark. -/
def Rm (n b : Nat) : Prop := (n + 1) * b ≤ 140737488355328 ∧ n + 1 ≤ 4611686018427387904
theorem Rm.fit0 {α : Type} {l : List α} {b : Nat} (h : Rm l.length b) : appFits 0 l.length b = true := by
  have : l.length * b ≤ (l.length + 1) * b := Nat.mul_le_mul_right _ (Nat.le_succ _)
  simp only [appFits, Nat.zero_add, Bool.and_eq_true, decide_eq_true_eq]
  exact ⟨Nat.le_trans this h.1, by have := h.2; omega⟩
theorem Rm.fit1 {n b : Nat} (h : Rm n b) : appFits n 1 b = true := L.fit1 h.1 h.2
theorem cut {α : Type} (l : List α) (m : α) : decide (l.length ≤ (l ++ m :: []).length) = true := by
  simp
theorem take_mark {α : Type} (l : List α) (m : α) : List.take l.length (l ++ [m]) = l := by simp
theorem take_mark1 {α : Type} (l : List α) (m : α) : List.take (l.length + 1) (l ++ [m]) = l ++ [m] := List.take_of_length_le (by simp)
theorem get_mark {α : Type} (l : List α) (m d : α) : (l ++ [m]).getD l.length d = m := by simp
theorem allEq_refl (l : List Int) : allEq (fun x y => x == y) l l = true := by
  induction l with
  | nil => rfl
  | cons a l ih => simp only [allEq, beq_self_eq_true, ih, Bool.and_self]
/-- A partition with a mark behind each of its lists. -/
def gP (p : WP) : WP := (p.1, (p.2.1, (p.2.2.1, ((Vw p.2.2.2.1 ++ [-77], (Vw p.2.2.2.1).length), ((Vw p.2.2.2.2.1 ++ [(0, (0, (0, (0, (-77, ())))))], (Vw p.2.2.2.2.1).length), ((Vw p.2.2.2.2.2.1 ++ [(-77, (0, (0, (0, (0, (false, ()))))))], (Vw p.2.2.2.2.2.1).length), (p.2.2.2.2.2.2.1, (p.2.2.2.2.2.2.2.1, ((Vw p.2.2.2.2.2.2.2.2.1 ++ [(-77, (0, ()))], (Vw p.2.2.2.2.2.2.2.2.1).length), ((Vw p.2.2.2.2.2.2.2.2.2.1 ++ [true], (Vw p.2.2.2.2.2.2.2.2.2.1).length), ((Vw p.2.2.2.2.2.2.2.2.2.2.1 ++ [(-77, (0, ()))], (Vw p.2.2.2.2.2.2.2.2.2.2.1).length), p.2.2.2.2.2.2.2.2.2.2.2)))))))))))
def gC (c : WC) : WC := (c.1, (c.2.1, ((Vw c.2.2.1 ++ [-77], (Vw c.2.2.1).length), c.2.2.2)))
abbrev mkP : WP := ((0, (0, (0, (0, ())))), (-77, (0, (([], 0), (([], 0), (([], 0), (0, (List.replicate 8 0, (([], 0), (([], 0), (([], 0), ())))))))))))
abbrev mkQ : PO := (0, (0, (false, (-77, (0, (0, ()))))))
abbrev mkC : WC := (0, (0, (([], 0), (-77, (0, ())))))
/-- Room in a partition. -/
structure RmP (p : WP) : Prop where
  i : Rm (Vw p.2.2.2.1).length 8
  c : Rm (Vw p.2.2.2.2.1).length 8
  r : Rm (Vw p.2.2.2.2.2.1).length 48
  s : Rm (Vw p.2.2.2.2.2.2.2.2.1).length 16
  e : Rm (Vw p.2.2.2.2.2.2.2.2.2.1).length 1
  b : Rm (Vw p.2.2.2.2.2.2.2.2.2.2.1).length 16
structure RmI (x : WI) : Prop where
  p : Rm (Vw x.1).length 264
  q : Rm (Vw x.2.1).length 48
  c : Rm (Vw x.2.2.1).length 56
  ps : ∀ p, p ∈ Vw x.1 → RmP p
  cs : ∀ c, c ∈ Vw x.2.2.1 → Rm (Vw c.2.2.1).length 8
theorem Rm.mono {n m b : Nat} (h : Rm n b) (hm : m ≤ n) : Rm m b := ⟨Nat.le_trans (Nat.mul_le_mul_right _ (by omega)) h.1, by have := h.2; omega⟩


/-! ### twin -/
theorem d16_val (k : Nat) (p : WP) (hr : RmP p) : d16 k (p, ()) = some ((gP p, ()), ()) := by
  simp only [d16, lt, hr.i.fit0, hr.c.fit0, hr.r.fit0, hr.s.fit0, hr.e.fit0, hr.b.fit0, hr.i.fit1, hr.c.fit1, hr.r.fit1, hr.s.fit1, hr.e.fit1, hr.b.fit1, List.nil_append, List.length_cons, List.length_nil, Nat.zero_add, decide_true, Bool.true_and, Bool.and_self, cut, dge0, Int.toNat_natCast, if_true]
  rfl
theorem d5_cloop (x u : WI) (hx : RmI x) (P : List WP × Nat) (Q : List PO × Nat) : ∀ (m i k : Nat), i + m = (Vw x.2.2.1).length → m < k →
    loopN (d5_L3 d5_K1) k (((P, (Q, ((((Vw x.2.2.1).take i).map gC, ((Vw x.2.2.1).take i).length), ()))), (x, (u, ()))), ((i : Int), ())) =
      some (((P, (Q, (((Vw x.2.2.1).map gC ++ [mkC], (Vw x.2.2.1).length), ()))), ()), ()) := by
  have hk := hx.c
  have hb := hk.2
  intro m
  induction m with
  | zero =>
    intro i k hi hk'
    obtain ⟨k, rfl⟩ : ∃ k', k = k' + 1 := ⟨k - 1, by omega⟩
    have h0 : (Vw x.2.2.1).take i = Vw x.2.2.1 := List.take_of_length_le (by omega)
    have hl : ((Vw x.2.2.1).map gC).length = (Vw x.2.2.1).length := List.length_map ..
    have hfit : appFits ((Vw x.2.2.1).map gC).length 1 56 = true := by rw [hl]; exact hk.fit1
    have hcut := cut ((Vw x.2.2.1).map gC) mkC
    rw [hl] at hcut
    have hd : decide ((Vw x.2.2.1).length = ((Vw x.2.2.1).map gC).length) = true := decide_eq_true hl.symm
    rw [h0]
    simp only [loopN, d5_L3, lt, dnlt (show (Vw x.2.2.1).length ≤ i by omega), Bool.false_eq_true, if_false, d5_K1, List.length_cons, List.length_nil, Nat.zero_add, hd, hfit, Bool.and_self, if_true, hcut, dge0, Int.toNat_natCast]
  | succ m ih =>
    intro i k hi hk'
    obtain ⟨k, rfl⟩ : ∃ k', k = k' + 1 := ⟨k - 1, by omega⟩
    have h1 : i < (Vw x.2.2.1).length := by omega
    have hih := ih (i + 1) k (by omega) (by omega)
    generalize hc : (Vw x.2.2.1)[i] = c at hih
    have hrc : Rm (Vw c.2.2.1).length 8 := hx.cs c (by rw [← hc]; exact List.getElem_mem h1)
    have hlt : ((Vw x.2.2.1).take i).length = i := by rw [List.length_take]; omega
    have hl : (((Vw x.2.2.1).take i).map gC).length = i := by rw [List.length_map, hlt]
    have hfit : appFits (((Vw x.2.2.1).take i).map gC).length 1 56 = true := by rw [hl]; exact (hk.mono (by omega)).fit1
    have hd : decide (((Vw x.2.2.1).take i).length = (((Vw x.2.2.1).take i).map gC).length) = true := decide_eq_true (by rw [hl, hlt])
    have et : ((Vw x.2.2.1).take i).map gC ++ gC c :: [] = ((Vw x.2.2.1).take (i + 1)).map gC := by
      rw [List.take_succ_eq_append_getElem h1, List.map_append, ← hc]; rfl
    have el : (((Vw x.2.2.1).take (i + 1)).map gC).length = ((Vw x.2.2.1).take (i + 1)).length := List.length_map ..
    have eg : ((Vw c.2.2.1 ++ (Neg.neg (77 : Int)) :: [], (Vw c.2.2.1).length) : List Int × Nat) = (gC c).2.2.1 := rfl
    have egc : ((c.1, (c.2.1, ((Vw c.2.2.1 ++ (Neg.neg (77 : Int)) :: [], (Vw c.2.2.1).length), c.2.2.2))) : WC) = gC c := rfl
    simp only [loopN, d5_L3, lt, shr, dlt h1, dge0, Bool.and_self, if_true, Int.toNat_natCast, getD_mem h1, hc, hrc.fit0, List.nil_append, List.length_cons, List.length_nil, Nat.zero_add, decide_true, hrc.fit1, Bool.true_and, cut, hd, hfit, d5_K2, wr1 (show i < 4611686018427387904 by omega), egc, et, el]
    exact hih

theorem unit_eta (u : Unit) : u = () := rfl
theorem d5_ploop (k0 : Nat) (X : (((WI × (WI × (WI × Unit))) × Unit) → (Option ((WI × Unit) × Unit)))) (x u : WI) (hx : RmI x) : ∀ (m i k : Nat), i + m = (Vw x.1).length → m < k →
    loopN (d5_L6 k0 X) k ((((((Vw x.1).take i).map gP, ((Vw x.1).take i).length), ((([], 0) : List PO × Nat), ((([], 0) : List WC × Nat), ()))), (x, (u, ()))), ((i : Int), ())) =
      X (((((Vw x.1).map gP, (Vw x.1).length), (([], 0), (([], 0), ()))), (x, (u, ()))), ()) := by
  have hk := hx.p
  have hb := hk.2
  intro m
  induction m with
  | zero =>
    intro i k hi hk'
    obtain ⟨k, rfl⟩ : ∃ k', k = k' + 1 := ⟨k - 1, by omega⟩
    have h0 : (Vw x.1).take i = Vw x.1 := List.take_of_length_le (by omega)
    rw [h0]
    simp only [loopN, d5_L6, lt, dnlt (show (Vw x.1).length ≤ i by omega), Bool.false_eq_true, if_false]
  | succ m ih =>
    intro i k hi hk'
    obtain ⟨k, rfl⟩ : ∃ k', k = k' + 1 := ⟨k - 1, by omega⟩
    have h1 : i < (Vw x.1).length := by omega
    have hih := ih (i + 1) k (by omega) (by omega)
    generalize hc : (Vw x.1)[i] = p at hih
    have hr : RmP p := hx.ps p (by rw [← hc]; exact List.getElem_mem h1)
    have hlt : ((Vw x.1).take i).length = i := by rw [List.length_take]; omega
    have hl : (((Vw x.1).take i).map gP).length = i := by rw [List.length_map, hlt]
    have hfit : appFits (((Vw x.1).take i).map gP).length 1 264 = true := by rw [hl]; exact (hk.mono (by omega)).fit1
    have hd : decide (((Vw x.1).take i).length = (((Vw x.1).take i).map gP).length) = true := decide_eq_true (by rw [hl, hlt])
    have et : ((Vw x.1).take i).map gP ++ gP p :: [] = ((Vw x.1).take (i + 1)).map gP := by
      rw [List.take_succ_eq_append_getElem h1, List.map_append, ← hc]; rfl
    have el : (((Vw x.1).take (i + 1)).map gP).length = ((Vw x.1).take (i + 1)).length := List.length_map ..
    have h16 := d16_val k0 p hr
    simp only [loopN, d5_L6, lt, shr, dlt h1, dge0, Bool.and_self, if_true, Int.toNat_natCast, getD_mem h1, hc, h16, Option.bind_some, List.length_cons, List.length_nil, Nat.zero_add, Bool.true_and, hd, hfit, d5_K5, wr1 (show i < 4611686018427387904 by omega), et, el]
    exact hih
/-- twin, as it is. -/
def gI (x : WI) : WI := (((Vw x.1).map gP ++ [mkP], (Vw x.1).length), ((Vw x.2.1 ++ [mkQ], (Vw x.2.1).length), (((Vw x.2.2.1).map gC ++ [mkC], (Vw x.2.2.1).length), ())))
theorem d5_eq (k : Nat) (x : WI) (hx : RmI x) (h1 : (Vw x.1).length < k) (h2 : (Vw x.2.2.1).length < k) : d5 k (x, ()) = some ((gI x, ()), ()) := by
  have e1 := d5_ploop k (d5_K4 k) x ((([], 0) : List WP × Nat), ((([], 0) : List PO × Nat), ((([], 0) : List WC × Nat), ()))) hx (Vw x.1).length 0 k (by omega) (by omega)
  have e2 := d5_cloop x ((([], 0) : List WP × Nat), ((([], 0) : List PO × Nat), ((([], 0) : List WC × Nat), ()))) hx ((Vw x.1).map gP ++ [mkP], (Vw x.1).length) (Vw x.2.1 ++ [mkQ], (Vw x.2.1).length) (Vw x.2.2.1).length 0 k (by omega) (by omega)
  rw [List.take_zero, List.map_nil, List.length_nil] at e1 e2
  have hl : ((Vw x.1).map gP).length = (Vw x.1).length := List.length_map ..
  have hfit : appFits ((Vw x.1).map gP).length 1 264 = true := by rw [hl]; exact hx.p.fit1
  have hcut := cut ((Vw x.1).map gP) mkP
  rw [hl] at hcut
  have hd : decide ((Vw x.1).length = ((Vw x.1).map gP).length) = true := decide_eq_true hl.symm
  simp only [d5, shr]
  refine Eq.trans e1 ?_
  simp only [d5_K4, lt, shr, List.length_cons, List.length_nil, Nat.zero_add, hd, hfit, Bool.and_self, if_true, hcut, dge0, Int.toNat_natCast, hx.q.fit0, hx.q.fit1, List.nil_append, decide_true, Bool.true_and, cut]
  exact e2


end Go.Proofs.Ytledeaknnihlmaa.L
