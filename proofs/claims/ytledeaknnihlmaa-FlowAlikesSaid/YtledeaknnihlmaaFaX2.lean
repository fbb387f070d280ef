import Derived.Test.YtledeaknnihlmaaFaX1
namespace Go.Proofs.Ytledeaknnihlmaa.L
open Go Go.Lift
set_option linter.unusedVariables false
set_option linter.unusedSimpArgs false
set_option maxRecDepth 100000

theorem t40 : Int.toNat (40 : Int) = 40 := rfl
theorem t70 : Int.toNat (70 : Int) = 70 := rfl
theorem q40 : decide ((0 : Int) ≤ (40 : Int)) = true := rfl
theorem q70 : decide ((0 : Int) ≤ (70 : Int)) = true := rfl
/-! ### trimmed -/
def tQ {α : Type} (n : Nat) (z : List α × Nat) : List α × Nat := if n < (Vw z).length then (z.1, n) else z
theorem tQ_vw {α : Type} (n : Nat) (z : List α × Nat) : Vw (tQ n z) = (Vw z).take n := by
  unfold tQ
  split
  · rename_i h
    have : (Vw z).length ≤ z.2 := by rw [List.length_take]; omega
    show List.take n z.1 = List.take n (List.take z.2 z.1)
    rw [List.take_take, Nat.min_eq_left (by omega)]
  · rw [List.take_of_length_le (l := Vw z) (by omega)]
theorem vw_le {α : Type} (z : List α × Nat) : (Vw z).length ≤ z.1.length := by rw [List.length_take]; omega
def tC (c : WC) : WC := (c.1, (c.2.1, (tQ 70 c.2.2.1, c.2.2.2)))
theorem d4_loop (x u : WI) (hx : Rm (Vw x.2.2.1).length 56) : ∀ m i k, i + m = min (Vw x.2.2.1).length 70 → m < k →
    loopN (d4_L4 d4_K1) k (((((Vw x.2.2.1).take i).map tC, ((Vw x.2.2.1).take i).length), (x, (u, ()))), ((i : Int), ())) = some (((x.1, (x.2.1, ((((Vw x.2.2.1).take 70).map tC, ((Vw x.2.2.1).take 70).length), x.2.2.2))), ()), ()) := by
  have hb := hx.2
  intro m
  induction m with
  | zero =>
    intro i k hi hk
    obtain ⟨k, rfl⟩ : ∃ k', k = k' + 1 := ⟨k - 1, by omega⟩
    by_cases h70 : 70 ≤ (Vw x.2.2.1).length
    · obtain rfl : i = 70 := by omega
      have e : (((Vw x.2.2.1).length : Nat) : Int) > (70 : Int) ∨ True := .inr trivial
      have e1 : decide (((70 : Nat) : Int) < (70 : Int)) = false := rfl
      simp only [loopN, d4_L4, lt, e1, iteA, Bool.and_false, Bool.false_eq_true, if_false, d4_K1]
    · have h0 : (Vw x.2.2.1).take i = (Vw x.2.2.1).take 70 := by rw [List.take_of_length_le (by omega), List.take_of_length_le (by omega)]
      simp only [loopN, d4_L4, lt, dnlt (show (Vw x.2.2.1).length ≤ i by omega), iteA, Bool.false_and, Bool.false_eq_true, if_false, d4_K1, h0]
  | succ m ih =>
    intro i k hi hk
    obtain ⟨k, rfl⟩ : ∃ k', k = k' + 1 := ⟨k - 1, by omega⟩
    have h1 : i < (Vw x.2.2.1).length := by omega
    have hih := ih (i + 1) k (by omega) (by omega)
    have h70 : decide ((i : Int) < (70 : Int)) = true := decide_eq_true (by omega)
    have hlt : ((Vw x.2.2.1).take i).length = i := by rw [List.length_take]; omega
    have hl : (((Vw x.2.2.1).take i).map tC).length = i := by rw [List.length_map, hlt]
    have hfit : appFits (((Vw x.2.2.1).take i).map tC).length 1 56 = true := by rw [hl]; exact (hx.mono (by omega)).fit1
    have hd : decide (((Vw x.2.2.1).take i).length = (((Vw x.2.2.1).take i).map tC).length) = true := decide_eq_true (by rw [hl, hlt])
    generalize hc : (Vw x.2.2.1)[i] = c
    have et : ((Vw x.2.2.1).take i).map tC ++ tC c :: [] = ((Vw x.2.2.1).take (i + 1)).map tC := by
      rw [List.take_succ_eq_append_getElem h1, List.map_append, hc]; rfl
    have el : (((Vw x.2.2.1).take (i + 1)).map tC).length = ((Vw x.2.2.1).take (i + 1)).length := List.length_map ..
    have fin : d4_K3 (d4_K2 (loopN (d4_L4 d4_K1) k)) ((x, (u, (tC c, ((((Vw x.2.2.1).take i).map tC, ((Vw x.2.2.1).take i).length), ())))), ((i : Int), ())) = some (((x.1, (x.2.1, ((((Vw x.2.2.1).take 70).map tC, ((Vw x.2.2.1).take 70).length), x.2.2.2))), ()), ()) := by
      simp only [d4_K3, lt, List.length_cons, List.length_nil, Nat.zero_add, hd, hfit, Bool.and_self, if_true, d4_K2, wr1 (show i < 4611686018427387904 by omega), et, el]
      exact hih
    rw [← fin]
    by_cases h : 70 < (Vw c.2.2.1).length
    · have e1 : decide ((((Vw c.2.2.1).length : Nat) : Int) > (70 : Int)) = true := decide_eq_true (by omega)
      have e2 : decide (70 ≤ c.2.2.1.1.length) = true := decide_eq_true (by have := vw_le c.2.2.1; omega)
      have e3 : tC c = (c.1, (c.2.1, ((c.2.2.1.1, 70), c.2.2.2))) := by unfold tC tQ; rw [if_pos h]
      rw [e3]
      simp only [loopN, d4_L4, lt, shr, dlt h1, h70, iteA, dge0, Bool.and_self, if_true, Int.toNat_natCast, getD_mem h1, hc, e1, e2, t70, q70]
    · have e1 : decide ((((Vw c.2.2.1).length : Nat) : Int) > (70 : Int)) = false := decide_eq_false (by omega)
      have e3 : tC c = c := by unfold tC tQ; rw [if_neg h]
      rw [e3]
      simp only [loopN, d4_L4, lt, shr, dlt h1, h70, iteA, dge0, Bool.and_self, if_true, Int.toNat_natCast, getD_mem h1, hc, e1, Bool.false_eq_true, if_false]
def tI (x : WI) : WI := (tQ 40 x.1, (tQ 70 x.2.1, ((((Vw x.2.2.1).take 70).map tC, ((Vw x.2.2.1).take 70).length), x.2.2.2)))
theorem d4_K5_val (k : Nat) (hk : 70 < k) (x u : WI) (hx : Rm (Vw x.2.2.1).length 56) : d4_K5 k ((x, (u, ())), ()) = some (((x.1, (x.2.1, ((((Vw x.2.2.1).take 70).map tC, ((Vw x.2.2.1).take 70).length), x.2.2.2))), ()), ()) := by
  have := d4_loop x u hx (min (Vw x.2.2.1).length 70) 0 k (by omega) (by omega)
  rw [List.take_zero] at this
  simp only [d4_K5, shr]
  exact this
theorem d4_val (k : Nat) (hk : 70 < k) (x : WI) (hx : Rm (Vw x.2.2.1).length 56) : d4 k (x, ()) = some ((tI x, ()), ()) := by
  have key : ∀ y u : WI, y.2 = x.2 → d4_K6 k ((y, (u, ())), ()) = some (((y.1, (tQ 70 y.2.1, ((((Vw x.2.2.1).take 70).map tC, ((Vw x.2.2.1).take 70).length), y.2.2.2))), ()), ()) := by
    intro y u hy
    have hq : Vw y.2.2.1 = Vw x.2.2.1 := by rw [hy]
    by_cases h : 70 < (Vw y.2.1).length
    · have e1 : decide ((((Vw y.2.1).length : Nat) : Int) > (70 : Int)) = true := decide_eq_true (by omega)
      have e2 : decide (70 ≤ y.2.1.1.length) = true := decide_eq_true (by have := vw_le y.2.1; omega)
      have e3 : tQ 70 y.2.1 = (y.2.1.1, 70) := if_pos h
      have := d4_K5_val k hk (y.1, ((y.2.1.1, 70), y.2.2)) u (by show Rm (Vw y.2.2.1).length 56; rw [hq]; exact hx)
      rw [show Vw ((y.1, ((y.2.1.1, 70), y.2.2)) : WI).2.2.1 = Vw x.2.2.1 from hq] at this
      simp only [d4_K6, lt, shr, e1, e2, e3, q70, t70, Bool.and_self, if_true]
      exact this
    · have e1 : decide ((((Vw y.2.1).length : Nat) : Int) > (70 : Int)) = false := decide_eq_false (by omega)
      have e3 : tQ 70 y.2.1 = y.2.1 := if_neg h
      have := d4_K5_val k hk y u (by rw [hq]; exact hx)
      rw [hq] at this
      simp only [d4_K6, lt, shr, e1, e3, Bool.false_eq_true, if_false]
      exact this
  by_cases h : 40 < (Vw x.1).length
  · have e1 : decide ((((Vw x.1).length : Nat) : Int) > (40 : Int)) = true := decide_eq_true (by omega)
    have e2 : decide (40 ≤ x.1.1.length) = true := decide_eq_true (by have := vw_le x.1; omega)
    have e3 : tQ 40 x.1 = (x.1.1, 40) := if_pos h
    unfold tI
    rw [e3]
    simp only [d4, lt, shr, e1, e2, q40, t40, Bool.and_self, if_true]
    exact key ((x.1.1, 40), x.2) _ rfl
  · have e1 : decide ((((Vw x.1).length : Nat) : Int) > (40 : Int)) = false := decide_eq_false (by omega)
    have e3 : tQ 40 x.1 = x.1 := if_neg h
    unfold tI
    rw [e3]
    simp only [d4, lt, shr, e1, Bool.false_eq_true, if_false]
    exact key x _ rfl
/-! ### scripts -/
def gN (x : WN) : WN := (x.1, (x.2.1, (x.2.2.1, ((Vw x.2.2.2.1 ++ [-77], (Vw x.2.2.2.1).length), x.2.2.2.2))))
abbrev mkN : WN := (-77, (0, (0, (([], 0), ()))))
structure RmN (z : List WN × Nat) : Prop where
  l : Rm (Vw z).length 48
  d : ∀ x ∈ Vw z, Rm (Vw x.2.2.2.1).length 8
def gL (z : List WN × Nat) : List WN × Nat := ((Vw z).map gN ++ [mkN], (Vw z).length)
theorem d7_loop (z : List WN × Nat) (hz : RmN z) : ∀ m i k, i + m = (Vw z).length → m < k →
    loopN (d7_L3 d7_K1) k (((((Vw z).take i).map gN, ((Vw z).take i).length), ()), ((i : Int), (z, ()))) = some ((gL z, ()), ()) := by
  have hk := hz.l
  have hb := hk.2
  intro m
  induction m with
  | zero =>
    intro i k hi hk'
    obtain ⟨k, rfl⟩ : ∃ k', k = k' + 1 := ⟨k - 1, by omega⟩
    have h0 : (Vw z).take i = Vw z := List.take_of_length_le (by omega)
    have hl : ((Vw z).map gN).length = (Vw z).length := List.length_map ..
    have hfit : appFits ((Vw z).map gN).length 1 48 = true := by rw [hl]; exact hk.fit1
    have hcut := cut ((Vw z).map gN) mkN
    rw [hl] at hcut
    have hd : decide ((Vw z).length = ((Vw z).map gN).length) = true := decide_eq_true hl.symm
    rw [h0]
    simp only [loopN, d7_L3, lt, dnlt (show (Vw z).length ≤ i by omega), Bool.false_eq_true, if_false, d7_K1, List.length_cons, List.length_nil, Nat.zero_add, hd, hfit, Bool.and_self, if_true, hcut, dge0, Int.toNat_natCast]
    rfl
  | succ m ih =>
    intro i k hi hk'
    obtain ⟨k, rfl⟩ : ∃ k', k = k' + 1 := ⟨k - 1, by omega⟩
    have h1 : i < (Vw z).length := by omega
    have hih := ih (i + 1) k (by omega) (by omega)
    generalize hc : (Vw z)[i] = c at hih
    have hrc : Rm (Vw c.2.2.2.1).length 8 := hz.d c (by rw [← hc]; exact List.getElem_mem h1)
    have hlt : ((Vw z).take i).length = i := by rw [List.length_take]; omega
    have hl : (((Vw z).take i).map gN).length = i := by rw [List.length_map, hlt]
    have hfit : appFits (((Vw z).take i).map gN).length 1 48 = true := by rw [hl]; exact (hk.mono (by omega)).fit1
    have hd : decide (((Vw z).take i).length = (((Vw z).take i).map gN).length) = true := decide_eq_true (by rw [hl, hlt])
    have et : ((Vw z).take i).map gN ++ gN c :: [] = ((Vw z).take (i + 1)).map gN := by
      rw [List.take_succ_eq_append_getElem h1, List.map_append, ← hc]; rfl
    have el : (((Vw z).take (i + 1)).map gN).length = ((Vw z).take (i + 1)).length := List.length_map ..
    have egc : ((c.1, (c.2.1, (c.2.2.1, ((Vw c.2.2.2.1 ++ (Neg.neg (77 : Int)) :: [], (Vw c.2.2.2.1).length), c.2.2.2.2)))) : WN) = gN c := rfl
    simp only [loopN, d7_L3, lt, shr, dlt h1, dge0, Bool.and_self, if_true, Int.toNat_natCast, getD_mem h1, hc, hrc.fit0, List.nil_append, List.length_cons, List.length_nil, Nat.zero_add, decide_true, hrc.fit1, Bool.true_and, cut, hd, hfit, d7_K2, wr1 (show i < 4611686018427387904 by omega), egc, et, el]
    exact hih
theorem d7_val (k : Nat) (z : List WN × Nat) (hz : RmN z) (hk : (Vw z).length < k) : d7 k (z, ()) = some ((gL z, ()), ()) := by
  have := d7_loop z hz (Vw z).length 0 k (by omega) hk
  rw [List.take_zero, List.map_nil, List.length_nil] at this
  simp only [d7, shr]
  exact this
end Go.Proofs.Ytledeaknnihlmaa.L
