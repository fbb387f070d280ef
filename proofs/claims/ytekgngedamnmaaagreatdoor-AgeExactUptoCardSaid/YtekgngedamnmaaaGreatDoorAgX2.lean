import Derived.Test.YtekgngedamnmaaaGreatDoorAgX1
namespace Go.Proofs.YtekgngedamnmaaaGreatDoor.L
open Go Go.Lift
set_option linter.unusedVariables false
set_option linter.unusedSimpArgs false
set_option maxRecDepth 100000

/-- What is in sight. -/
abbrev Vw {α : Type} (z : List α × Nat) : List α := List.take z.2 z.1
/-- Room for a mark. -/
def Rm (n b : Nat) : Prop := (n + 1) * b ≤ 140737488355328 ∧ n + 1 ≤ 4611686018427387904
theorem Rm.fit0 {α : Type} {l : List α} {b : Nat} (h : Rm l.length b) : appFits 0 l.length b = true := by
  have : l.length * b ≤ (l.length + 1) * b := Nat.mul_le_mul_right _ (Nat.le_succ _)
  simp only [appFits, Nat.zero_add, Bool.and_eq_true, decide_eq_true_eq]
  exact ⟨Nat.le_trans this h.1, by have := h.2; omega⟩
theorem Rm.fit1 {n b : Nat} (h : Rm n b) : appFits n 1 b = true := L.fit1 h.1 h.2
theorem cut {α : Type} (l : List α) (m : α) : decide (l.length ≤ (l ++ m :: []).length) = true := by
  simp
theorem take_mark {α : Type} (l : List α) (m : α) : List.take l.length (l ++ [m]) = l := by simp
theorem take_mark1 {α : Type} (l : List α) (m : α) : List.take (l.length + 1) (l ++ [m]) = l ++ [m] := List.take_of_length_le (by simp)
theorem get_mark {α : Type} (l : List α) (m d : α) : (l ++ [m]).getD l.length d = m := by simp
theorem allEq_refl (l : List Int) : allEq (fun x y => x == y) l l = true := by
  induction l with
  | nil => rfl
  | cons a l ih => simp only [allEq, beq_self_eq_true, ih, Bool.and_self]
/-- A partition with a mark behind each of its lists. -/
def gP (p : WP) : WP := (p.1, (p.2.1, (p.2.2.1, ((Vw p.2.2.2.1 ++ [-77], (Vw p.2.2.2.1).length), ((Vw p.2.2.2.2.1 ++ [(77, (0, (0, (0, (0, ())))))], (Vw p.2.2.2.2.1).length), ((Vw p.2.2.2.2.2.1 ++ [(-77, (0, (0, (0, (0, (false, ()))))))], (Vw p.2.2.2.2.2.1).length), (p.2.2.2.2.2.2.1, (p.2.2.2.2.2.2.2.1, ((Vw p.2.2.2.2.2.2.2.2.1 ++ [(0, (-77, ()))], (Vw p.2.2.2.2.2.2.2.2.1).length), ((Vw p.2.2.2.2.2.2.2.2.2.1 ++ [true], (Vw p.2.2.2.2.2.2.2.2.2.1).length), ((Vw p.2.2.2.2.2.2.2.2.2.2.1 ++ [(-77, (0, ()))], (Vw p.2.2.2.2.2.2.2.2.2.2.1).length), ())))))))))))
def gC (c : WC) : WC := (c.1, (c.2.1, ((Vw c.2.2.1 ++ [-77], (Vw c.2.2.1).length), c.2.2.2)))
abbrev mkP : WP := ((0, (0, (0, (0, ())))), (-77, (0, (([], 0), (([], 0), (([], 0), (0, (List.replicate 8 0, (([], 0), (([], 0), (([], 0), ())))))))))))
abbrev mkQ : PQ := (-77, (0, (false, (0, (0, (0, ()))))))
abbrev mkC : WC := (-77, (0, (([], 0), (0, (0, ())))))
/-- Room in a partition. -/
structure RmP (p : WP) : Prop where
  i : Rm (Vw p.2.2.2.1).length 8
  c : Rm (Vw p.2.2.2.2.1).length 8
  r : Rm (Vw p.2.2.2.2.2.1).length 48
  s : Rm (Vw p.2.2.2.2.2.2.2.2.1).length 16
  e : Rm (Vw p.2.2.2.2.2.2.2.2.2.1).length 1
  b : Rm (Vw p.2.2.2.2.2.2.2.2.2.2.1).length 16
structure RmI (x : WI) : Prop where
  p : Rm (Vw x.1).length 264
  q : Rm (Vw x.2.1).length 48
  c : Rm (Vw x.2.2.1).length 56
  ps : ∀ p, p ∈ Vw x.1 → RmP p
  cs : ∀ c, c ∈ Vw x.2.2.1 → Rm (Vw c.2.2.1).length 8
theorem Rm.mono {n m b : Nat} (h : Rm n b) (hm : m ≤ n) : Rm m b := ⟨Nat.le_trans (Nat.mul_le_mul_right _ (by omega)) h.1, by have := h.2; omega⟩

/-! ### given -/
theorem d19_cloop (x u : WI) (hx : RmI x) (P : List WP × Nat) (Q : List PQ × Nat) : ∀ (m i k : Nat), i + m = (Vw x.2.2.1).length → m < k →
    loopN (d19_L3 d19_K1) k (((P, (Q, ((((Vw x.2.2.1).take i).map gC, ((Vw x.2.2.1).take i).length), ()))), (x, (u, ()))), ((i : Int), ())) =
      some (((P, (Q, (((Vw x.2.2.1).map gC ++ [mkC], (Vw x.2.2.1).length), ()))), ()), ()) := by
  have hk := hx.c
  have hb := hk.2
  intro m
  induction m with
  | zero =>
    intro i k hi hk'
    obtain ⟨k, rfl⟩ : ∃ k', k = k' + 1 := ⟨k - 1, by omega⟩
    have h0 : (Vw x.2.2.1).take i = Vw x.2.2.1 := List.take_of_length_le (by omega)
    have hl : ((Vw x.2.2.1).map gC).length = (Vw x.2.2.1).length := List.length_map ..
    have hfit : appFits ((Vw x.2.2.1).map gC).length 1 56 = true := by rw [hl]; exact hk.fit1
    have hcut := cut ((Vw x.2.2.1).map gC) mkC
    rw [hl] at hcut
    have hd : decide ((Vw x.2.2.1).length = ((Vw x.2.2.1).map gC).length) = true := decide_eq_true hl.symm
    rw [h0]
    simp only [loopN, d19_L3, lt, dnlt (show (Vw x.2.2.1).length ≤ i by omega), Bool.false_eq_true, if_false, d19_K1, List.length_cons, List.length_nil, Nat.zero_add, hd, hfit, Bool.and_self, if_true, hcut, dge0, Int.toNat_natCast]
  | succ m ih =>
    intro i k hi hk'
    obtain ⟨k, rfl⟩ : ∃ k', k = k' + 1 := ⟨k - 1, by omega⟩
    have h1 : i < (Vw x.2.2.1).length := by omega
    have hih := ih (i + 1) k (by omega) (by omega)
    generalize hc : (Vw x.2.2.1)[i] = c at hih
    have hrc : Rm (Vw c.2.2.1).length 8 := hx.cs c (by rw [← hc]; exact List.getElem_mem h1)
    have hlt : ((Vw x.2.2.1).take i).length = i := by rw [List.length_take]; omega
    have hl : (((Vw x.2.2.1).take i).map gC).length = i := by rw [List.length_map, hlt]
    have hfit : appFits (((Vw x.2.2.1).take i).map gC).length 1 56 = true := by rw [hl]; exact (hk.mono (by omega)).fit1
    have hd : decide (((Vw x.2.2.1).take i).length = (((Vw x.2.2.1).take i).map gC).length) = true := decide_eq_true (by rw [hl, hlt])
    have et : ((Vw x.2.2.1).take i).map gC ++ gC c :: [] = ((Vw x.2.2.1).take (i + 1)).map gC := by
      rw [List.take_succ_eq_append_getElem h1, List.map_append, ← hc]; rfl
    have el : (((Vw x.2.2.1).take (i + 1)).map gC).length = ((Vw x.2.2.1).take (i + 1)).length := List.length_map ..
    have eg : ((Vw c.2.2.1 ++ (Neg.neg (77 : Int)) :: [], (Vw c.2.2.1).length) : List Int × Nat) = (gC c).2.2.1 := rfl
    have egc : ((c.1, (c.2.1, ((Vw c.2.2.1 ++ (Neg.neg (77 : Int)) :: [], (Vw c.2.2.1).length), c.2.2.2))) : WC) = gC c := rfl
    simp only [loopN, d19_L3, lt, shr, dlt h1, dge0, Bool.and_self, if_true, Int.toNat_natCast, getD_mem h1, hc, hrc.fit0, List.nil_append, List.length_cons, List.length_nil, Nat.zero_add, decide_true, hrc.fit1, Bool.true_and, cut, hd, hfit, d19_K2, wr1 (show i < 4611686018427387904 by omega), egc, et, el]
    exact hih

theorem unit_eta (u : Unit) : u = () := rfl
theorem d19_ploop (X : (((WI × (WI × (WI × Unit))) × Unit) → (Option ((WI × Unit) × Unit)))) (x u : WI) (hx : RmI x) : ∀ (m i k : Nat), i + m = (Vw x.1).length → m < k →
    loopN (d19_L6 X) k ((((((Vw x.1).take i).map gP, ((Vw x.1).take i).length), ((([], 0) : List PQ × Nat), ((([], 0) : List WC × Nat), ()))), (x, (u, ()))), ((i : Int), ())) =
      X (((((Vw x.1).map gP, (Vw x.1).length), (([], 0), (([], 0), ()))), (x, (u, ()))), ()) := by
  have hk := hx.p
  have hb := hk.2
  intro m
  induction m with
  | zero =>
    intro i k hi hk'
    obtain ⟨k, rfl⟩ : ∃ k', k = k' + 1 := ⟨k - 1, by omega⟩
    have h0 : (Vw x.1).take i = Vw x.1 := List.take_of_length_le (by omega)
    rw [h0]
    simp only [loopN, d19_L6, lt, dnlt (show (Vw x.1).length ≤ i by omega), Bool.false_eq_true, if_false]
  | succ m ih =>
    intro i k hi hk'
    obtain ⟨k, rfl⟩ : ∃ k', k = k' + 1 := ⟨k - 1, by omega⟩
    have h1 : i < (Vw x.1).length := by omega
    have hih := ih (i + 1) k (by omega) (by omega)
    generalize hc : (Vw x.1)[i] = p at hih
    have hr : RmP p := hx.ps p (by rw [← hc]; exact List.getElem_mem h1)
    have hlt : ((Vw x.1).take i).length = i := by rw [List.length_take]; omega
    have hl : (((Vw x.1).take i).map gP).length = i := by rw [List.length_map, hlt]
    have hfit : appFits (((Vw x.1).take i).map gP).length 1 264 = true := by rw [hl]; exact (hk.mono (by omega)).fit1
    have hd : decide (((Vw x.1).take i).length = (((Vw x.1).take i).map gP).length) = true := decide_eq_true (by rw [hl, hlt])
    have et : ((Vw x.1).take i).map gP ++ gP p :: [] = ((Vw x.1).take (i + 1)).map gP := by
      rw [List.take_succ_eq_append_getElem h1, List.map_append, ← hc]; rfl
    have el : (((Vw x.1).take (i + 1)).map gP).length = ((Vw x.1).take (i + 1)).length := List.length_map ..
    have egp : ((p.1, (p.2.1, (p.2.2.1, ((Vw p.2.2.2.1 ++ Neg.neg (77 : Int) :: [], (Vw p.2.2.2.1).length), ((Vw p.2.2.2.2.1 ++ ((77 : Int), ((0 : Int), ((0 : Int), ((0 : Int), ((0 : Int), ()))))) :: [], (Vw p.2.2.2.2.1).length), ((Vw p.2.2.2.2.2.1 ++ (Neg.neg (77 : Int), ((0 : Int), ((0 : Int), ((0 : Int), ((0 : Int), (false, ())))))) :: [], (Vw p.2.2.2.2.2.1).length), (p.2.2.2.2.2.2.1, (p.2.2.2.2.2.2.2.1, ((Vw p.2.2.2.2.2.2.2.2.1 ++ ((0 : Int), (Neg.neg (77 : Int), ())) :: [], (Vw p.2.2.2.2.2.2.2.2.1).length), ((Vw p.2.2.2.2.2.2.2.2.2.1 ++ true :: [], (Vw p.2.2.2.2.2.2.2.2.2.1).length), ((Vw p.2.2.2.2.2.2.2.2.2.2.1 ++ (Neg.neg (77 : Int), ((0 : Int), ())) :: [], (Vw p.2.2.2.2.2.2.2.2.2.2.1).length), p.2.2.2.2.2.2.2.2.2.2.2))))))))))) : WP) = gP p := rfl
    simp only [loopN, d19_L6, lt, shr, dlt h1, dge0, Bool.and_self, if_true, Int.toNat_natCast, getD_mem h1, hc, hr.i.fit0, hr.c.fit0, hr.r.fit0, hr.s.fit0, hr.e.fit0, hr.b.fit0, hr.i.fit1, hr.c.fit1, hr.r.fit1, hr.s.fit1, hr.e.fit1, hr.b.fit1, List.nil_append, List.length_cons, List.length_nil, Nat.zero_add, decide_true, Bool.true_and, cut, hd, hfit, d19_K5, wr1 (show i < 4611686018427387904 by omega), egp, et, el]
    exact hih
/-- given, as it is. -/
def gI (x : WI) : WI := (((Vw x.1).map gP ++ [mkP], (Vw x.1).length), ((Vw x.2.1 ++ [mkQ], (Vw x.2.1).length), (((Vw x.2.2.1).map gC ++ [mkC], (Vw x.2.2.1).length), ())))
theorem d19_eq (k : Nat) (x : WI) (hx : RmI x) (h1 : (Vw x.1).length < k) (h2 : (Vw x.2.2.1).length < k) : d19 k (x, ()) = some ((gI x, ()), ()) := by
  have e1 := d19_ploop (d19_K4 k) x ((([], 0) : List WP × Nat), ((([], 0) : List PQ × Nat), ((([], 0) : List WC × Nat), ()))) hx (Vw x.1).length 0 k (by omega) (by omega)
  have e2 := d19_cloop x ((([], 0) : List WP × Nat), ((([], 0) : List PQ × Nat), ((([], 0) : List WC × Nat), ()))) hx ((Vw x.1).map gP ++ [mkP], (Vw x.1).length) (Vw x.2.1 ++ [mkQ], (Vw x.2.1).length) (Vw x.2.2.1).length 0 k (by omega) (by omega)
  rw [List.take_zero, List.map_nil, List.length_nil] at e1 e2
  have hl : ((Vw x.1).map gP).length = (Vw x.1).length := List.length_map ..
  have hfit : appFits ((Vw x.1).map gP).length 1 264 = true := by rw [hl]; exact hx.p.fit1
  have hcut := cut ((Vw x.1).map gP) mkP
  rw [hl] at hcut
  have hd : decide ((Vw x.1).length = ((Vw x.1).map gP).length) = true := decide_eq_true hl.symm
  simp only [d19, shr]
  refine Eq.trans e1 ?_
  simp only [d19_K4, lt, shr, List.length_cons, List.length_nil, Nat.zero_add, hd, hfit, Bool.and_self, if_true, hcut, dge0, Int.toNat_natCast, hx.q.fit0, hx.q.fit1, List.nil_append, decide_true, Bool.true_and, cut]
  exact e2

/-! ### alike -/
theorem d61_loop18 (X : (((WP × (WP × Unit)) × (Bool × Unit)) → (Option ((Bool × Unit) × Unit)))) (p q : WP) (l : List Int) (hp : Vw p.2.2.2.1 = l) (hq : Vw q.2.2.2.1 = l) (hb : l.length < 4611686018427387904) : ∀ (m i k : Nat), i + m = l.length → m < k →
    loopN (d61_L18 X) k ((q, (p, ())), ((i : Int), (true, ()))) = X ((q, (p, ())), (true, ())) := by
  intro m
  induction m with
  | zero =>
    intro i k hi hk
    obtain ⟨k, rfl⟩ : ∃ k', k = k' + 1 := ⟨k - 1, by omega⟩
    simp only [loopN, d61_L18, lt, hp, hq, dnlt (show l.length ≤ i by omega), Bool.false_eq_true, if_false, if_true]
  | succ m ih =>
    intro i k hi hk
    obtain ⟨k, rfl⟩ : ∃ k', k = k' + 1 := ⟨k - 1, by omega⟩
    have h1 : i < l.length := by omega
    have hih := ih (i + 1) k (by omega) (by omega)
    simp only [loopN, d61_L18, lt, shr, hp, hq, dlt h1, dge0, Bool.and_self, if_true, Int.toNat_natCast, getD_mem h1, beq_self_eq_true, d61_K17, wr1 (show i < 4611686018427387904 by omega)]
    exact hih
theorem d61_loop15 (X : (((WP × (WP × Unit)) × (Bool × Unit)) → (Option ((Bool × Unit) × Unit)))) (p q : WP) (l : List IS) (hp : Vw p.2.2.2.2.1 = l) (hq : Vw q.2.2.2.2.1 = l) (hb : l.length < 4611686018427387904) : ∀ (m i k : Nat), i + m = l.length → m < k →
    loopN (d61_L15 X) k ((q, (p, ())), ((i : Int), (true, ()))) = X ((q, (p, ())), (true, ())) := by
  intro m
  induction m with
  | zero =>
    intro i k hi hk
    obtain ⟨k, rfl⟩ : ∃ k', k = k' + 1 := ⟨k - 1, by omega⟩
    simp only [loopN, d61_L15, lt, hp, hq, dnlt (show l.length ≤ i by omega), Bool.false_eq_true, if_false, if_true]
  | succ m ih =>
    intro i k hi hk
    obtain ⟨k, rfl⟩ : ∃ k', k = k' + 1 := ⟨k - 1, by omega⟩
    have h1 : i < l.length := by omega
    have hih := ih (i + 1) k (by omega) (by omega)
    simp only [loopN, d61_L15, lt, shr, hp, hq, dlt h1, dge0, Bool.and_self, if_true, Int.toNat_natCast, getD_mem h1, beq_self_eq_true, d61_K14, wr1 (show i < 4611686018427387904 by omega)]
    exact hih
theorem d61_loop12 (X : (((WP × (WP × Unit)) × (Bool × Unit)) → (Option ((Bool × Unit) × Unit)))) (p q : WP) (l : List PC) (hp : Vw p.2.2.2.2.2.1 = l) (hq : Vw q.2.2.2.2.2.1 = l) (hb : l.length < 4611686018427387904) : ∀ (m i k : Nat), i + m = l.length → m < k →
    loopN (d61_L12 X) k ((q, (p, ())), ((i : Int), (true, ()))) = X ((q, (p, ())), (true, ())) := by
  intro m
  induction m with
  | zero =>
    intro i k hi hk
    obtain ⟨k, rfl⟩ : ∃ k', k = k' + 1 := ⟨k - 1, by omega⟩
    simp only [loopN, d61_L12, lt, hp, hq, dnlt (show l.length ≤ i by omega), Bool.false_eq_true, if_false, if_true]
  | succ m ih =>
    intro i k hi hk
    obtain ⟨k, rfl⟩ : ∃ k', k = k' + 1 := ⟨k - 1, by omega⟩
    have h1 : i < l.length := by omega
    have hih := ih (i + 1) k (by omega) (by omega)
    simp only [loopN, d61_L12, lt, shr, hp, hq, dlt h1, dge0, Bool.and_self, if_true, Int.toNat_natCast, getD_mem h1, beq_self_eq_true, d61_K11, wr1 (show i < 4611686018427387904 by omega)]
    exact hih
theorem d61_loop9 (X : (((WP × (WP × Unit)) × (Bool × Unit)) → (Option ((Bool × Unit) × Unit)))) (p q : WP) (l : List I2) (hp : Vw p.2.2.2.2.2.2.2.2.1 = l) (hq : Vw q.2.2.2.2.2.2.2.2.1 = l) (hb : l.length < 4611686018427387904) : ∀ (m i k : Nat), i + m = l.length → m < k →
    loopN (d61_L9 X) k ((q, (p, ())), ((i : Int), (true, ()))) = X ((q, (p, ())), (true, ())) := by
  intro m
  induction m with
  | zero =>
    intro i k hi hk
    obtain ⟨k, rfl⟩ : ∃ k', k = k' + 1 := ⟨k - 1, by omega⟩
    simp only [loopN, d61_L9, lt, hp, hq, dnlt (show l.length ≤ i by omega), Bool.false_eq_true, if_false, if_true]
  | succ m ih =>
    intro i k hi hk
    obtain ⟨k, rfl⟩ : ∃ k', k = k' + 1 := ⟨k - 1, by omega⟩
    have h1 : i < l.length := by omega
    have hih := ih (i + 1) k (by omega) (by omega)
    simp only [loopN, d61_L9, lt, shr, hp, hq, dlt h1, dge0, Bool.and_self, if_true, Int.toNat_natCast, getD_mem h1, beq_self_eq_true, d61_K8, wr1 (show i < 4611686018427387904 by omega)]
    exact hih
theorem d61_loop6 (X : (((WP × (WP × Unit)) × (Bool × Unit)) → (Option ((Bool × Unit) × Unit)))) (p q : WP) (l : List Bool) (hp : Vw p.2.2.2.2.2.2.2.2.2.1 = l) (hq : Vw q.2.2.2.2.2.2.2.2.2.1 = l) (hb : l.length < 4611686018427387904) : ∀ (m i k : Nat), i + m = l.length → m < k →
    loopN (d61_L6 X) k ((q, (p, ())), ((i : Int), (true, ()))) = X ((q, (p, ())), (true, ())) := by
  intro m
  induction m with
  | zero =>
    intro i k hi hk
    obtain ⟨k, rfl⟩ : ∃ k', k = k' + 1 := ⟨k - 1, by omega⟩
    simp only [loopN, d61_L6, lt, hp, hq, dnlt (show l.length ≤ i by omega), Bool.false_eq_true, if_false, if_true]
  | succ m ih =>
    intro i k hi hk
    obtain ⟨k, rfl⟩ : ∃ k', k = k' + 1 := ⟨k - 1, by omega⟩
    have h1 : i < l.length := by omega
    have hih := ih (i + 1) k (by omega) (by omega)
    simp only [loopN, d61_L6, lt, shr, hp, hq, dlt h1, dge0, Bool.and_self, if_true, Int.toNat_natCast, getD_mem h1, beq_self_eq_true, d61_K5, wr1 (show i < 4611686018427387904 by omega)]
    exact hih
theorem d61_loop3 (X : ((Unit × (Bool × Unit)) → (Option ((Bool × Unit) × Unit)))) (p q : WP) (l : List I2) (hp : Vw p.2.2.2.2.2.2.2.2.2.2.1 = l) (hq : Vw q.2.2.2.2.2.2.2.2.2.2.1 = l) (hb : l.length < 4611686018427387904) : ∀ (m i k : Nat), i + m = l.length → m < k →
    loopN (d61_L3 X) k ((q, (p, ())), ((i : Int), (true, ()))) = X ((), (true, ())) := by
  intro m
  induction m with
  | zero =>
    intro i k hi hk
    obtain ⟨k, rfl⟩ : ∃ k', k = k' + 1 := ⟨k - 1, by omega⟩
    simp only [loopN, d61_L3, lt, hp, hq, dnlt (show l.length ≤ i by omega), Bool.false_eq_true, if_false, if_true]
  | succ m ih =>
    intro i k hi hk
    obtain ⟨k, rfl⟩ : ∃ k', k = k' + 1 := ⟨k - 1, by omega⟩
    have h1 : i < l.length := by omega
    have hih := ih (i + 1) k (by omega) (by omega)
    simp only [loopN, d61_L3, lt, shr, hp, hq, dlt h1, dge0, Bool.and_self, if_true, Int.toNat_natCast, getD_mem h1, beq_self_eq_true, d61_K2, wr1 (show i < 4611686018427387904 by omega)]
    exact hih
/-- Two partitions with the same in sight. -/
structure SameP (p q : WP) : Prop where
  sv : q.1 = p.1
  w : q.2.1 = p.2.1
  f : q.2.2.1 = p.2.2.1
  i : Vw q.2.2.2.1 = Vw p.2.2.2.1
  c : Vw q.2.2.2.2.1 = Vw p.2.2.2.2.1
  r : Vw q.2.2.2.2.2.1 = Vw p.2.2.2.2.2.1
  h : q.2.2.2.2.2.2.1 = p.2.2.2.2.2.2.1
  hl : q.2.2.2.2.2.2.2.1 = p.2.2.2.2.2.2.2.1
  s : Vw q.2.2.2.2.2.2.2.2.1 = Vw p.2.2.2.2.2.2.2.2.1
  e : Vw q.2.2.2.2.2.2.2.2.2.1 = Vw p.2.2.2.2.2.2.2.2.2.1
  b : Vw q.2.2.2.2.2.2.2.2.2.2.1 = Vw p.2.2.2.2.2.2.2.2.2.2.1
theorem SameP.refl (p : WP) : SameP p p := ⟨rfl, rfl, rfl, rfl, rfl, rfl, rfl, rfl, rfl, rfl, rfl⟩
theorem same_gP (p : WP) : SameP p (gP p) := ⟨rfl, rfl, rfl, take_mark _ _, take_mark _ _, take_mark _ _, rfl, rfl, take_mark _ _, take_mark _ _, take_mark _ _⟩
theorem SameP.trans {p q r : WP} (a : SameP p q) (b : SameP q r) : SameP p r := ⟨b.sv.trans a.sv, b.w.trans a.w, b.f.trans a.f, b.i.trans a.i, b.c.trans a.c, b.r.trans a.r, b.h.trans a.h, b.hl.trans a.hl, b.s.trans a.s, b.e.trans a.e, b.b.trans a.b⟩
/-- Fuel for a partition's lists. -/
structure FuP (k : Nat) (p : WP) : Prop where
  i : (Vw p.2.2.2.1).length < k
  c : (Vw p.2.2.2.2.1).length < k
  r : (Vw p.2.2.2.2.2.1).length < k
  s : (Vw p.2.2.2.2.2.2.2.2.1).length < k
  e : (Vw p.2.2.2.2.2.2.2.2.2.1).length < k
  b : (Vw p.2.2.2.2.2.2.2.2.2.2.1).length < k
theorem dlt1 {α : Type} (l : List α) (m : α) : decide ((l.length : Int) < (((l ++ [m]).length : Nat) : Int)) = true := decide_eq_true (by simp; omega)
theorem dle1 {α : Type} (l : List α) (m : α) : decide (l.length + 1 ≤ (l ++ [m]).length) = true := decide_eq_true (by simp)
theorem Rm.lt {n b : Nat} (h : Rm n b) : n < 4611686018427387904 := h.2
theorem d61_eq (k : Nat) (p q : WP) (hs : SameP p q) (hr : RmP p) (hf : FuP k p) : d61 k (gP p, (q, ())) = some ((true, ()), ()) := by
  have g := same_gP p
  have l1 := d61_loop18 (d61_K16 k) (gP p) q _ g.i hs.i hr.i.lt (Vw p.2.2.2.1).length 0 k (by omega) hf.i
  have l2 := d61_loop15 (d61_K13 k) (gP p) q _ g.c hs.c hr.c.lt (Vw p.2.2.2.2.1).length 0 k (by omega) hf.c
  have l3 := d61_loop12 (d61_K10 k) (gP p) q _ g.r hs.r hr.r.lt (Vw p.2.2.2.2.2.1).length 0 k (by omega) hf.r
  have l4 := d61_loop9 (d61_K7 k) (gP p) q _ g.s hs.s hr.s.lt (Vw p.2.2.2.2.2.2.2.2.1).length 0 k (by omega) hf.s
  have l5 := d61_loop6 (d61_K4 k) (gP p) q _ g.e hs.e hr.e.lt (Vw p.2.2.2.2.2.2.2.2.2.1).length 0 k (by omega) hf.e
  have l6 := d61_loop3 d61_K1 (gP p) q _ g.b hs.b hr.b.lt (Vw p.2.2.2.2.2.2.2.2.2.2.1).length 0 k (by omega) hf.b
  have key : loopN (d61_L18 (d61_K16 k)) k ((q, (gP p, ())), (((0 : Nat) : Int), (true, ()))) = some ((true, ()), ()) := by
    refine l1.trans ?_
    simp only [d61_K16, shr]
    refine l2.trans ?_
    simp only [d61_K13, shr]
    refine l3.trans ?_
    simp only [d61_K10, shr]
    refine l4.trans ?_
    simp only [d61_K7, shr]
    refine l5.trans ?_
    simp only [d61_K4, shr]
    refine l6.trans ?_
    rfl
  have m1 : (gP p).2.2.2.1.1 = Vw p.2.2.2.1 ++ [-77] := rfl
  have m2 : (gP p).2.2.2.2.1.1 = Vw p.2.2.2.2.1 ++ [(77, (0, (0, (0, (0, ())))))] := rfl
  have m3 : (gP p).2.2.2.2.2.1.1 = Vw p.2.2.2.2.2.1 ++ [(-77, (0, (0, (0, (0, (false, ()))))))] := rfl
  have m4 : (gP p).2.2.2.2.2.2.2.2.1.1 = Vw p.2.2.2.2.2.2.2.2.1 ++ [(0, (-77, ()))] := rfl
  have m5 : (gP p).2.2.2.2.2.2.2.2.2.1.1 = Vw p.2.2.2.2.2.2.2.2.2.1 ++ [true] := rfl
  have m6 : (gP p).2.2.2.2.2.2.2.2.2.2.1.1 = Vw p.2.2.2.2.2.2.2.2.2.2.1 ++ [(-77, (0, ()))] := rfl
  have n1 : (gP p).2.2.2.1.2 = (Vw p.2.2.2.1).length := rfl
  have n2 : (gP p).2.2.2.2.1.2 = (Vw p.2.2.2.2.1).length := rfl
  have n3 : (gP p).2.2.2.2.2.1.2 = (Vw p.2.2.2.2.2.1).length := rfl
  have n4 : (gP p).2.2.2.2.2.2.2.2.1.2 = (Vw p.2.2.2.2.2.2.2.2.1).length := rfl
  have n5 : (gP p).2.2.2.2.2.2.2.2.2.1.2 = (Vw p.2.2.2.2.2.2.2.2.2.1).length := rfl
  have n6 : (gP p).2.2.2.2.2.2.2.2.2.2.1.2 = (Vw p.2.2.2.2.2.2.2.2.2.2.1).length := rfl
  simp only [d61, lt, shr, n1, n2, n3, n4, n5, n6, take_mark, hs.i, hs.c, hs.r, hs.s, hs.e, hs.b, hs.sv, hs.w, hs.f, hs.h, hs.hl, g.sv, g.w, g.f, g.h, g.hl, m1, m2, m3, m4, m5, m6,
    beq_self_eq_true, if_true, Bool.and_self, allEq_refl, wr1 hr.i.lt, wr1 hr.c.lt, wr1 hr.r.lt, wr1 hr.s.lt, wr1 hr.e.lt, wr1 hr.b.lt, dge0, Int.toNat_natCast, dle1, take_mark1, dlt1, get_mark, Bool.or_true]
  exact key
end Go.Proofs.YtekgngedamnmaaaGreatDoor.L
