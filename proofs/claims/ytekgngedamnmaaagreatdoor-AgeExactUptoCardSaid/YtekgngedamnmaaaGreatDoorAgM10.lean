import Derived.Test.YtekgngedamnmaaaGreatDoorAgM9
namespace Go.Proofs.YtekgngedamnmaaaGreatDoor.L
open Go Go.Lift
set_option linter.unusedVariables false
set_option linter.unusedSimpArgs false
set_option maxRecDepth 100000

abbrev pt0 : PT := (sv0, ((0 : Int), ((0 : Int), (([] : List Int), (([] : List IS), (([] : List PC), ((0 : Int), ((List.replicate 8 (0 : Int)), (([] : List I2), (([] : List Bool), (([] : List I2), ())))))))))))
/-- The first part's error. -/
def firstE : List PT → Int
  | [] => 0
  | p :: l => if partB p = true then firstE l else partE p
theorem firstE_t {p : PT} {l : List PT} (h : partB p = true) : firstE (p :: l) = firstE l := if_pos h
theorem firstE_f {p : PT} {l : List PT} (h : partB p = false) : firstE (p :: l) = partE p := if_neg (by rw [h]; simp)
theorem firstE_ne : ∀ {l : List PT}, l.all partB = false → firstE l ≠ 0
  | [], h => by cases h
  | p :: l, h => by
    cases hp : partB p with
    | true => rw [firstE_t hp]; rw [List.all_cons, hp] at h; exact firstE_ne (by simpa using h)
    | false => rw [firstE_f hp]; exact partE_ne p
theorem cnt_loop (k0 : Nat) (hk0 : 101 < k0) (K : (IM × (List SV × Unit)) × Unit → Option ((Option I2 × Unit) × Unit)) (im : IM) (hl : im.1.length ≤ 64) : ∀ (m i k : Nat), i + m = im.1.length → m < k →
    ((im.1.drop i).all cntB = true ∧ loopN (d135_L12 k0 K) k (((im.1.take i).map (fun p => p.1), (im, ())), ((i : Int), (im.1, ((im.1.length : Int), ())))) = K ((im, (im.1.map (fun p => p.1), ())), ())) ∨
    ((im.1.drop i).all cntB = false ∧ ∃ y : I2, y.1 = 100 ∧ loopN (d135_L12 k0 K) k (((im.1.take i).map (fun p => p.1), (im, ())), ((i : Int), (im.1, ((im.1.length : Int), ())))) = some ((some y, ()), ())) := by
  intro m
  induction m with
  | zero =>
    intro i k hi hk
    obtain ⟨k, rfl⟩ : ∃ k', k = k' + 1 := ⟨k - 1, by omega⟩
    rw [List.drop_eq_nil_of_le (by omega), List.take_of_length_le (by omega)]
    exact .inl ⟨rfl, by simp only [loopN, d135_L12, lt, dnlt (show im.1.length ≤ i by omega), Bool.false_eq_true, if_false]⟩
  | succ m ih =>
    intro i k hi hk
    obtain ⟨k, rfl⟩ : ∃ k', k = k' + 1 := ⟨k - 1, by omega⟩
    have h1 : i < im.1.length := by omega
    have hih := ih (i + 1) k (by omega) (by omega)
    rw [List.drop_eq_getElem_cons h1, List.all_cons]
    have ef : appFits ((im.1.take i).map (fun p => p.1)).length (List.length (im.1[i].1 :: ([] : List SV))) 32 = true := by
      rw [List.length_map, List.length_take]
      exact fit1 (by omega) (by omega)
    have et : (im.1.take i).map (fun p => p.1) ++ im.1[i].1 :: ([] : List SV) = (im.1.take (i + 1)).map (fun p => p.1) := by
      rw [List.take_succ_eq_append_getElem h1, List.map_append]; rfl
    simp only [loopN, d135_L12, lt, shr, dlt h1, dge0, Bool.and_self, if_true, Int.toNat_natCast, getD_mem h1, d154_eq, Option.bind_some, wr1 (show i < 4611686018427387904 by omega), ef, et]
    rcases hold3 k0 hk0 im.1[i] ((i + 1 : Nat) : Int) with ⟨a, b⟩ | ⟨a, y, hy, b⟩
    · simp only [a, b, Option.bind_some, Option.isNone_none, Bool.not_true, Bool.false_eq_true, if_false, Bool.true_and, d135_K11, wr1 (show i < 4611686018427387904 by omega)]
      exact hih
    · exact .inr ⟨by simp only [a, Bool.false_and], y, hy, by simp only [b, Option.bind_some, Option.isNone_some, Bool.not_false, if_true]⟩
theorem part_loop (k0 : Nat) (K : ((IM × Unit) × Unit) → Option ((Option I2 × Unit) × Unit)) (hk0 : 101 < k0) (im : IM) (hz : ∀ p, p ∈ im.1 → sizesOk p) (hl : im.1.length ≤ 64) : ∀ (m i k : Nat), i + m = im.1.length → m < k →
    ((im.1.drop i).all partB = true ∧ loopN (d135_L9 k0 K) k ((im, ()), ((i : Int), (im.1, ((im.1.length : Int), ())))) = K ((im, ()), ())) ∨
    ((im.1.drop i).all partB = false ∧ ∃ y : I2, y.1 = firstE (im.1.drop i) ∧ loopN (d135_L9 k0 K) k ((im, ()), ((i : Int), (im.1, ((im.1.length : Int), ())))) = some ((some y, ()), ())) := by
  intro m
  induction m with
  | zero =>
    intro i k hi hk
    obtain ⟨k, rfl⟩ : ∃ k', k = k' + 1 := ⟨k - 1, by omega⟩
    rw [List.drop_eq_nil_of_le (by omega)]
    exact .inl ⟨rfl, by simp only [loopN, d135_L9, lt, dnlt (show im.1.length ≤ i by omega), Bool.false_eq_true, if_false]⟩
  | succ m ih =>
    intro i k hi hk
    obtain ⟨k, rfl⟩ : ∃ k', k = k' + 1 := ⟨k - 1, by omega⟩
    have h1 : i < im.1.length := by omega
    have hm : im.1[i] ∈ im.1 := List.getElem_mem h1
    have hih := ih (i + 1) k (by omega) (by omega)
    rw [List.drop_eq_getElem_cons h1, List.all_cons]
    simp only [loopN, d135_L9, lt, shr, dlt h1, dge0, Bool.and_self, if_true, Int.toNat_natCast, getD_mem h1, Option.bind_some, wr1 (show i < 4611686018427387904 by omega), d155_eq]
    rcases hold7 k0 hk0 im.1[i] (hz _ hm) ((i + 1 : Nat) : Int) with ⟨a, b⟩ | ⟨a, y, hy, b⟩
    · rw [firstE_t a]
      simp only [a, b, Option.bind_some, Option.isNone_none, Bool.not_true, Bool.false_eq_true, if_false, Bool.true_and, d135_K8, wr1 (show i < 4611686018427387904 by omega)]
      exact hih
    · rw [firstE_f a]
      exact .inr ⟨by simp only [a, Bool.false_and], y, hy, by simp only [b, Option.bind_some, Option.isNone_some, Bool.not_false, if_true]⟩
theorem port_loop (k0 : Nat) (K : ((IM × Unit) × Unit) → Option ((Option I2 × Unit) × Unit)) (im : IM) (hl : im.2.1.length ≤ 64) : ∀ (m i k : Nat), i + m = im.2.1.length → m < k →
    ((im.2.1.drop i).all (portB (im.1.length : Int)) = true ∧ loopN (d135_L6 k0 K) k ((im, ()), ((i : Int), (im.2.1, ((im.2.1.length : Int), ())))) = K ((im, ()), ())) ∨
    ((im.2.1.drop i).all (portB (im.1.length : Int)) = false ∧ ∃ y : I2, y.1 = 107 ∧ loopN (d135_L6 k0 K) k ((im, ()), ((i : Int), (im.2.1, ((im.2.1.length : Int), ())))) = some ((some y, ()), ())) := by
  intro m
  induction m with
  | zero =>
    intro i k hi hk
    obtain ⟨k, rfl⟩ : ∃ k', k = k' + 1 := ⟨k - 1, by omega⟩
    rw [List.drop_eq_nil_of_le (by omega)]
    exact .inl ⟨rfl, by simp only [loopN, d135_L6, lt, dnlt (show im.2.1.length ≤ i by omega), Bool.false_eq_true, if_false]⟩
  | succ m ih =>
    intro i k hi hk
    obtain ⟨k, rfl⟩ : ∃ k', k = k' + 1 := ⟨k - 1, by omega⟩
    have h1 : i < im.2.1.length := by omega
    have hm : im.2.1[i] ∈ im.2.1 := List.getElem_mem h1
    have hih := ih (i + 1) k (by omega) (by omega)
    rw [List.drop_eq_getElem_cons h1, List.all_cons]
    simp only [loopN, d135_L6, lt, shr, dlt h1, dge0, Bool.and_self, if_true, Int.toNat_natCast, getD_mem h1, Option.bind_some, wr1 (show i < 4611686018427387904 by omega), d156_eq]
    cases a : portB (im.1.length : Int) im.2.1[i] with
    | true =>
      simp only [Bool.not_true, Bool.false_eq_true, if_false, Bool.true_and, d135_K5, wr1 (show i < 4611686018427387904 by omega)]
      exact hih
    | false => exact .inr ⟨by simp only [Bool.false_and], (107, (((i + 1 : Nat) : Int), ())), rfl, by simp only [Bool.not_false, if_true]⟩
theorem chan_loop (k0 : Nat) (K : Unit × Unit → Option ((Option I2 × Unit) × Unit)) (ps : List PO) (cs : List CH) (hp : ps.length ≤ 64) (hl : cs.length ≤ 64) (hk0 : ∀ d, d ∈ cs → d.2.2.1.length < k0 ∧ d.2.2.1.length < 4611686018427387904) : ∀ (m i k : Nat) (F : List Bool) (z : Int), i + m = cs.length → m < k → Inv ps (cs.take i) F →
    (chansB ps (cs.take i) (cs.drop i) = true ∧ loopN (d135_L3 k0 K) k (((ps, (F, (z, ()))), ()), ((i : Int), (cs, ((cs.length : Int), ())))) = K ((), ())) ∨
    (chansB ps (cs.take i) (cs.drop i) = false ∧ ∃ y : I2, y.1 = 108 ∧ loopN (d135_L3 k0 K) k (((ps, (F, (z, ()))), ()), ((i : Int), (cs, ((cs.length : Int), ())))) = some ((some y, ()), ())) := by
  intro m
  induction m with
  | zero =>
    intro i k F z hi hk hI
    obtain ⟨k, rfl⟩ : ∃ k', k = k' + 1 := ⟨k - 1, by omega⟩
    rw [List.drop_eq_nil_of_le (by omega)]
    exact .inl ⟨rfl, by simp only [loopN, d135_L3, lt, dnlt (show cs.length ≤ i by omega), Bool.false_eq_true, if_false]⟩
  | succ m ih =>
    intro i k F z hi hk hI
    obtain ⟨k, rfl⟩ : ∃ k', k = k' + 1 := ⟨k - 1, by omega⟩
    have h1 : i < cs.length := by omega
    obtain ⟨q1, q2⟩ := hk0 _ (List.getElem_mem h1)
    rw [List.drop_eq_getElem_cons h1, chansB]
    simp only [loopN, d135_L3, lt, shr, dlt h1, dge0, Bool.and_self, if_true, Int.toNat_natCast, getD_mem h1]
    rcases chan_step k0 ps (cs.take i) F z cs[i] hp q2 q1 hI with ⟨a, F', z', hI', b⟩ | ⟨a, y, b⟩
    · rw [← List.take_succ_eq_append_getElem h1] at hI' ⊢
      have hih := ih (i + 1) k F' z' (by omega) (by omega) hI'
      simp only [a, b, Option.bind_some, Bool.not_true, Bool.false_eq_true, if_false, Bool.true_and, d135_K2, wr1 (show i < 4611686018427387904 by omega)]
      exact hih
    · exact .inr ⟨by simp only [a, Bool.false_and], (108, (((i + 1 : Nat) : Int), ())), rfl, by simp only [b, Option.bind_some, Bool.not_false, if_true, wr1 (show i < 4611686018427387904 by omega)]⟩
theorem inv0 (ps : List PO) (hp : ps.length ≤ 64) : Inv ps [] (List.replicate 65 false) := by
  refine ⟨List.length_replicate, ?_⟩
  intro t t1 t2
  have : (List.replicate 65 false).getD t.toNat false = false := by
    rw [getD_mem (by rw [List.length_replicate]; omega), List.getElem_replicate]
  rw [this]
  simp [usedTo]
/-- What a module must be. -/
structure CheckOk (im : IM) : Prop where
  nparts : im.1.length ≤ 32
  nports : im.2.1.length ≤ 64
  nchans : im.2.2.1.length ≤ 64
  cnt : im.1.all cntB = true
  hyper : hyOk (im.1.map (fun p => p.1))
  parts : im.1.all partB = true
  ports : im.2.1.all (portB (im.1.length : Int)) = true
  chans : chansB im.2.1 [] im.2.2.1 = true
/-- What the kinds know of a module, and the fuel. -/
structure Fits (k : Nat) (im : IM) : Prop where
  fuel : 1048600 < k
  heal : ∀ p, p ∈ im.1 → p.2.2.2.2.2.2.2.1.length = 8
  tos : ∀ d, d ∈ im.2.2.1 → d.2.2.1.length < k ∧ d.2.2.1.length < 4611686018427387904
open Classical in
/-- Which error an image leads to. -/
noncomputable def errI (im : IM) : Int :=
  if ¬ (im.1.length ≤ 32 ∧ im.2.1.length ≤ 64 ∧ im.2.2.1.length ≤ 64) then 100
  else if im.1.all cntB = false then 100
  else if ¬ hyOk (im.1.map (fun p => p.1)) then hyE (im.1.map (fun p => p.1))
  else if im.1.all partB = false then firstE im.1
  else if im.2.1.all (portB (im.1.length : Int)) = false then 107
  else if chansB im.2.1 [] im.2.2.1 = false then 108
  else 0
theorem nf {b : Bool} (h : b = true) : ¬ b = false := by rw [h]; simp
theorem errI_1 {im : IM} (h : ¬ (im.1.length ≤ 32 ∧ im.2.1.length ≤ 64 ∧ im.2.2.1.length ≤ 64)) : errI im = 100 := if_pos h
theorem errI_2 {im : IM} (h1 : im.1.length ≤ 32 ∧ im.2.1.length ≤ 64 ∧ im.2.2.1.length ≤ 64) (h : im.1.all cntB = false) : errI im = 100 := by unfold errI; rw [if_neg (fun h => h h1), if_pos h]
theorem errI_3 {im : IM} (h1 : im.1.length ≤ 32 ∧ im.2.1.length ≤ 64 ∧ im.2.2.1.length ≤ 64) (h2 : im.1.all cntB = true) (h : ¬ hyOk (im.1.map (fun p => p.1))) : errI im = hyE (im.1.map (fun p => p.1)) := by unfold errI; rw [if_neg (fun h => h h1), if_neg (nf h2), if_pos h]
theorem errI_4 {im : IM} (h1 : im.1.length ≤ 32 ∧ im.2.1.length ≤ 64 ∧ im.2.2.1.length ≤ 64) (h2 : im.1.all cntB = true) (h3 : hyOk (im.1.map (fun p => p.1))) (h : im.1.all partB = false) : errI im = firstE im.1 := by unfold errI; rw [if_neg (fun h => h h1), if_neg (nf h2), if_neg (fun h => h h3), if_pos h]
theorem errI_5 {im : IM} (h1 : im.1.length ≤ 32 ∧ im.2.1.length ≤ 64 ∧ im.2.2.1.length ≤ 64) (h2 : im.1.all cntB = true) (h3 : hyOk (im.1.map (fun p => p.1))) (h4 : im.1.all partB = true) (h : im.2.1.all (portB (im.1.length : Int)) = false) : errI im = 107 := by unfold errI; rw [if_neg (fun h => h h1), if_neg (nf h2), if_neg (fun h => h h3), if_neg (nf h4), if_pos h]
theorem errI_6 {im : IM} (h1 : im.1.length ≤ 32 ∧ im.2.1.length ≤ 64 ∧ im.2.2.1.length ≤ 64) (h2 : im.1.all cntB = true) (h3 : hyOk (im.1.map (fun p => p.1))) (h4 : im.1.all partB = true) (h5 : im.2.1.all (portB (im.1.length : Int)) = true) (h : chansB im.2.1 [] im.2.2.1 = false) : errI im = 108 := by unfold errI; rw [if_neg (fun h => h h1), if_neg (nf h2), if_neg (fun h => h h3), if_neg (nf h4), if_neg (nf h5), if_pos h]
theorem errI_0 {im : IM} (h : CheckOk im) : errI im = 0 := by
  unfold errI
  rw [if_neg (fun g => g ⟨h.nparts, h.nports, h.nchans⟩), if_neg (nf h.cnt), if_neg (fun g => g h.hyper), if_neg (nf h.parts), if_neg (nf h.ports), if_neg (nf h.chans)]
theorem errI_ne {im : IM} (h : ¬ CheckOk im) : errI im ≠ 0 := by
  by_cases h1 : im.1.length ≤ 32 ∧ im.2.1.length ≤ 64 ∧ im.2.2.1.length ≤ 64
  rotate_left
  · rw [errI_1 h1]; decide
  cases h2 : im.1.all cntB with
  | false => rw [errI_2 h1 h2]; decide
  | true =>
    by_cases h3 : hyOk (im.1.map (fun p => p.1))
    rotate_left
    · rw [errI_3 h1 h2 h3]; exact hyE_ne _
    cases h4 : im.1.all partB with
    | false => rw [errI_4 h1 h2 h3 h4]; exact firstE_ne h4
    | true =>
      cases h5 : im.2.1.all (portB (im.1.length : Int)) with
      | false => rw [errI_5 h1 h2 h3 h4 h5]; decide
      | true =>
        cases h6 : chansB im.2.1 [] im.2.2.1 with
        | false => rw [errI_6 h1 h2 h3 h4 h5 h6]; decide
        | true => exact absurd ⟨h1.1, h1.2.1, h1.2.2, h2, h3, h4, h5, h6⟩ h
theorem go1 {A : Prop} {E : Int} {x y z : Option ((Option I2 × Unit) × Unit)} (h : x = y) (H : (A ∧ y = z) ∨ (¬ A ∧ ∃ w : I2, w.1 = E ∧ y = some ((some w, ()), ()))) : (A ∧ x = z) ∨ (¬ A ∧ ∃ w : I2, w.1 = E ∧ x = some ((some w, ()), ())) := by subst h; exact H
theorem go2 {A : Prop} {E : Int} {x y z : Option ((Int × (Int × Unit)) × Unit)} (h : x = y) (H : (A ∧ y = z) ∨ (¬ A ∧ ∃ e p, e = E ∧ y = some ((e, (p, ())), ()))) : (A ∧ x = z) ∨ (¬ A ∧ ∃ e p, e = E ∧ x = some ((e, (p, ())), ())) := by subst h; exact H
theorem many_num (im : IM) : (if (if (decide ((im.1.length : Int) > 32)) = true then true else decide ((im.2.1.length : Int) > 64)) = true then true else decide ((im.2.2.1.length : Int) > 64)) = !decide (im.1.length ≤ 32 ∧ im.2.1.length ≤ 64 ∧ im.2.2.1.length ≤ 64) := by
  by_cases h1 : im.1.length ≤ 32 <;> by_cases h2 : im.2.1.length ≤ 64 <;> by_cases h3 : im.2.2.1.length ≤ 64 <;>
    simp [h1, h2, h3, show ((im.1.length : Int) > 32) ↔ ¬ im.1.length ≤ 32 by omega, show ((im.2.1.length : Int) > 64) ↔ ¬ im.2.1.length ≤ 64 by omega, show ((im.2.2.1.length : Int) > 64) ↔ ¬ im.2.2.1.length ≤ 64 by omega]
theorem d135_eq (k : Nat) (im : IM) (hf : Fits k im) : (CheckOk im ∧ d135 k (im, ()) = some ((none, ()), ())) ∨ (¬ CheckOk im ∧ ∃ y : I2, y.1 = errI im ∧ d135 k (im, ()) = some ((some y, ()), ())) := by
  have hk := hf.fuel
  simp only [d135, lt, many_num, shr]
  by_cases hn : im.1.length ≤ 32 ∧ im.2.1.length ≤ 64 ∧ im.2.2.1.length ≤ 64
  · obtain ⟨n1, n2, n3⟩ := hn
    simp only [n1, n2, n3, and_self, decide_true, Bool.not_true, Bool.false_eq_true, if_false]
    have e1 := cnt_loop k (by omega) (d135_K10 k) im (by omega) im.1.length 0 k (by omega) (by omega)
    rw [List.drop_zero, List.take_zero, List.map_nil] at e1
    rcases e1 with ⟨a1, b1⟩ | ⟨a1, y, hy, b1⟩
    rotate_left
    · exact .inr ⟨fun h => (by rw [h.cnt] at a1; cases a1), y, hy.trans (errI_2 ⟨n1, n2, n3⟩ a1).symm, b1⟩
    refine go1 b1 ?_
    simp only [d135_K10, lt, shr]
    rcases hyper_num k hk (im.1.map (fun p => p.1)) with ⟨a2, h, _, b2⟩ | ⟨a2, y, hy, b2⟩
    rotate_left
    · exact .inr ⟨fun h => a2 h.hyper, y, hy.trans (errI_3 ⟨n1, n2, n3⟩ a1 a2).symm, by rw [b2]; simp⟩
    rw [b2]
    simp only [Option.bind_some, Option.isNone_none, Bool.not_true, Bool.false_eq_true, if_false]
    have hz : ∀ p, p ∈ im.1 → sizesOk p := fun p hp => ⟨List.all_eq_true.1 a1 p hp, hf.heal p hp⟩
    have e3 := part_loop k (d135_K7 k) (by omega) im hz (by omega) im.1.length 0 k (by omega) (by omega)
    rw [List.drop_zero] at e3
    rcases e3 with ⟨a3, b3⟩ | ⟨a3, y, hy, b3⟩
    rotate_left
    · exact .inr ⟨fun h => (by rw [h.parts] at a3; cases a3), y, hy.trans (errI_4 ⟨n1, n2, n3⟩ a1 a2 a3).symm, b3⟩
    refine go1 b3 ?_
    simp only [d135_K7, shr]
    have e4 := port_loop k (d135_K4 k) im (by omega) im.2.1.length 0 k (by omega) (by omega)
    rw [List.drop_zero] at e4
    rcases e4 with ⟨a4, b4⟩ | ⟨a4, y, hy, b4⟩
    rotate_left
    · exact .inr ⟨fun h => (by rw [h.ports] at a4; cases a4), y, hy.trans (errI_5 ⟨n1, n2, n3⟩ a1 a2 a3 a4).symm, b4⟩
    refine go1 b4 ?_
    simp only [d135_K4, shr]
    have e5 := chan_loop k d135_K1 im.2.1 im.2.2.1 n2 n3 hf.tos im.2.2.1.length 0 k (List.replicate 65 false) 0 (by omega) (by omega) (inv0 _ n2)
    rw [List.drop_zero, List.take_zero] at e5
    rcases e5 with ⟨a5, b5⟩ | ⟨a5, y, hy, b5⟩
    · exact .inl ⟨⟨n1, n2, n3, a1, a2, a3, a4, a5⟩, b5⟩
    · exact .inr ⟨fun h => (by rw [h.chans] at a5; cases a5), y, hy.trans (errI_6 ⟨n1, n2, n3⟩ a1 a2 a3 a4 a5).symm, b5⟩
  · refine .inr ⟨fun h => hn ⟨h.nparts, h.nports, h.nchans⟩, (100, (0, ())), (errI_1 hn).symm, ?_⟩
    simp only [hn, decide_false, Bool.not_false, if_true]
theorem d96_err (k : Nat) (im : IM) (hf : Fits k im) : (CheckOk im ∧ d96 k (im, ()) = some ((0, (0, ())), ())) ∨ (¬ CheckOk im ∧ ∃ e p, e = errI im ∧ d96 k (im, ()) = some ((e, (p, ())), ())) := by
  rcases d135_eq k im hf with ⟨a, b⟩ | ⟨a, y, hy, b⟩
  · exact .inl ⟨a, by simp only [d96, lt, b, Option.bind_some, d119]⟩
  · exact .inr ⟨a, y.1, y.2.1, hy, by simp only [d96, lt, b, Option.bind_some, d119]⟩
theorem d96_eq (k : Nat) (im : IM) (hf : Fits k im) : (CheckOk im ∧ d96 k (im, ()) = some ((0, (0, ())), ())) ∨ (¬ CheckOk im ∧ ∃ e p, e ≠ (0 : Int) ∧ d96 k (im, ()) = some ((e, (p, ())), ())) :=
  (d96_err k im hf).imp id fun ⟨a, e, p, he, b⟩ => ⟨a, e, p, by rw [he]; exact errI_ne a, b⟩

/-! ### the document's Check -/
theorem d47_loop (K : (List SV × Unit) × Unit → Option ((List SV × Unit) × Unit)) (im : IM) (hl : im.1.length ≤ 64) : ∀ (m i k : Nat), i + m = im.1.length → m < k →
    loopN (d47_L3 K) k ((im, ((im.1.take i).map (fun p => p.1), ())), ((i : Int), ())) = K ((im.1.map (fun p => p.1), ()), ()) := by
  intro m
  induction m with
  | zero =>
    intro i k hi hk
    obtain ⟨k, rfl⟩ : ∃ k', k = k' + 1 := ⟨k - 1, by omega⟩
    rw [List.take_of_length_le (by omega)]
    simp only [loopN, d47_L3, lt, dnlt (show im.1.length ≤ i by omega), Bool.false_eq_true, if_false]
  | succ m ih =>
    intro i k hi hk
    obtain ⟨k, rfl⟩ : ∃ k', k = k' + 1 := ⟨k - 1, by omega⟩
    have h1 : i < im.1.length := by omega
    have hih := ih (i + 1) k (by omega) (by omega)
    have ef : appFits ((im.1.take i).map (fun p => p.1)).length (List.length (im.1[i].1 :: ([] : List SV))) 32 = true := by
      rw [List.length_map, List.length_take]
      exact fit1 (by omega) (by omega)
    have et : (im.1.take i).map (fun p => p.1) ++ im.1[i].1 :: ([] : List SV) = (im.1.take (i + 1)).map (fun p => p.1) := by
      rw [List.take_succ_eq_append_getElem h1, List.map_append]; rfl
    simp only [loopN, d47_L3, lt, shr, dlt h1, dge0, Bool.and_self, if_true, Int.toNat_natCast, getD_mem h1, wr1 (show i < 4611686018427387904 by omega), ef, et, d47_K2]
    exact hih
theorem d47_eq (k : Nat) (im : IM) (hl : im.1.length ≤ 64) (hk : 65 < k) : d47 k (im, ()) = some ((im.1.map (fun p => p.1), ()), ()) := by
  have := d47_loop d47_K1 im hl im.1.length 0 k (by omega) (by omega)
  rw [List.take_zero, List.map_nil] at this
  simp only [d47, shr]
  exact this
theorem cntd_loop (k0 : Nat) (K : ((IM × Unit) × Unit) → Option ((Int × (Int × Unit)) × Unit)) (im : IM) (hl : im.1.length ≤ 64) : ∀ (m i k : Nat), i + m = im.1.length → m < k →
    ((im.1.drop i).all cntB = true ∧ loopN (d14_L12 k0 K) k ((im, ()), ((i : Int), ())) = K ((im, ()), ())) ∨
    ((im.1.drop i).all cntB = false ∧ ∃ e p, e = 100 ∧ loopN (d14_L12 k0 K) k ((im, ()), ((i : Int), ())) = some ((e, (p, ())), ())) := by
  intro m
  induction m with
  | zero =>
    intro i k hi hk
    obtain ⟨k, rfl⟩ : ∃ k', k = k' + 1 := ⟨k - 1, by omega⟩
    rw [List.drop_eq_nil_of_le (by omega)]
    exact .inl ⟨rfl, by simp only [loopN, d14_L12, lt, dnlt (show im.1.length ≤ i by omega), Bool.false_eq_true, if_false]⟩
  | succ m ih =>
    intro i k hi hk
    obtain ⟨k, rfl⟩ : ∃ k', k = k' + 1 := ⟨k - 1, by omega⟩
    have h1 : i < im.1.length := by omega
    have hm : im.1[i] ∈ im.1 := List.getElem_mem h1
    have hih := ih (i + 1) k (by omega) (by omega)
    rw [List.drop_eq_getElem_cons h1, List.all_cons]
    simp only [loopN, d14_L12, lt, shr, dlt h1, dge0, Bool.and_self, if_true, Int.toNat_natCast, getD_mem h1, Option.bind_some, wr1 (show i < 4611686018427387904 by omega), d45_eq]
    cases a : cntB im.1[i] with
    | true =>
      simp only [a, Bool.not_true, Bool.false_eq_true, if_false, Bool.true_and, d14_K11, wr1 (show i < 4611686018427387904 by omega)]
      exact hih
    | false => exact .inr ⟨by simp only [Bool.false_and], 100, ((i + 1 : Nat) : Int), rfl, by simp only [a, Bool.not_false, if_true]⟩
theorem partd_loop (k0 : Nat) (K : ((IM × Unit) × Unit) → Option ((Int × (Int × Unit)) × Unit)) (hk0 : 101 < k0) (im : IM) (hz : ∀ p, p ∈ im.1 → sizesOk p) (hl : im.1.length ≤ 64) : ∀ (m i k : Nat), i + m = im.1.length → m < k →
    ((im.1.drop i).all partB = true ∧ loopN (d14_L9 k0 K) k ((im, ()), ((i : Int), ())) = K ((im, ()), ())) ∨
    ((im.1.drop i).all partB = false ∧ ∃ e p, e = firstE (im.1.drop i) ∧ loopN (d14_L9 k0 K) k ((im, ()), ((i : Int), ())) = some ((e, (p, ())), ())) := by
  intro m
  induction m with
  | zero =>
    intro i k hi hk
    obtain ⟨k, rfl⟩ : ∃ k', k = k' + 1 := ⟨k - 1, by omega⟩
    rw [List.drop_eq_nil_of_le (by omega)]
    exact .inl ⟨rfl, by simp only [loopN, d14_L9, lt, dnlt (show im.1.length ≤ i by omega), Bool.false_eq_true, if_false]⟩
  | succ m ih =>
    intro i k hi hk
    obtain ⟨k, rfl⟩ : ∃ k', k = k' + 1 := ⟨k - 1, by omega⟩
    have h1 : i < im.1.length := by omega
    have hm : im.1[i] ∈ im.1 := List.getElem_mem h1
    have hih := ih (i + 1) k (by omega) (by omega)
    rw [List.drop_eq_getElem_cons h1, List.all_cons]
    simp only [loopN, d14_L9, lt, shr, dlt h1, dge0, Bool.and_self, if_true, Int.toNat_natCast, getD_mem h1, Option.bind_some, wr1 (show i < 4611686018427387904 by omega)]
    rcases d49_eq k0 hk0 im.1[i] (hz _ hm) with ⟨a, b⟩ | ⟨a, e, he, b⟩
    · have ne : ((0 : Int) != 0) = false := rfl
      rw [firstE_t a]
      simp only [a, b, ne, Option.bind_some, Bool.false_eq_true, if_false, Bool.true_and, d14_K8, wr1 (show i < 4611686018427387904 by omega)]
      exact hih
    · have ne : (e != 0) = true := by rw [he]; simpa using partE_ne im.1[i]
      rw [firstE_f a]
      exact .inr ⟨by simp only [a, Bool.false_and], e, ((i + 1 : Nat) : Int), he, by simp only [b, ne, Option.bind_some, if_true]⟩
theorem portd_loop (k0 : Nat) (K : ((IM × Unit) × Unit) → Option ((Int × (Int × Unit)) × Unit)) (im : IM) (hl : im.2.1.length ≤ 64) : ∀ (m i k : Nat), i + m = im.2.1.length → m < k →
    ((im.2.1.drop i).all (portB (im.1.length : Int)) = true ∧ loopN (d14_L6 k0 K) k ((im, ()), ((i : Int), ())) = K ((im, ()), ())) ∨
    ((im.2.1.drop i).all (portB (im.1.length : Int)) = false ∧ ∃ e p, e = 107 ∧ loopN (d14_L6 k0 K) k ((im, ()), ((i : Int), ())) = some ((e, (p, ())), ())) := by
  intro m
  induction m with
  | zero =>
    intro i k hi hk
    obtain ⟨k, rfl⟩ : ∃ k', k = k' + 1 := ⟨k - 1, by omega⟩
    rw [List.drop_eq_nil_of_le (by omega)]
    exact .inl ⟨rfl, by simp only [loopN, d14_L6, lt, dnlt (show im.2.1.length ≤ i by omega), Bool.false_eq_true, if_false]⟩
  | succ m ih =>
    intro i k hi hk
    obtain ⟨k, rfl⟩ : ∃ k', k = k' + 1 := ⟨k - 1, by omega⟩
    have h1 : i < im.2.1.length := by omega
    have hm : im.2.1[i] ∈ im.2.1 := List.getElem_mem h1
    have hih := ih (i + 1) k (by omega) (by omega)
    rw [List.drop_eq_getElem_cons h1, List.all_cons]
    simp only [loopN, d14_L6, lt, shr, dlt h1, dge0, Bool.and_self, if_true, Int.toNat_natCast, getD_mem h1, Option.bind_some, wr1 (show i < 4611686018427387904 by omega), d50_eq]
    cases a : (portB (im.1.length : Int)) im.2.1[i] with
    | true =>
      simp only [a, Bool.not_true, Bool.false_eq_true, if_false, Bool.true_and, d14_K5, wr1 (show i < 4611686018427387904 by omega)]
      exact hih
    | false => exact .inr ⟨by simp only [Bool.false_and], 107, ((i + 1 : Nat) : Int), rfl, by simp only [a, Bool.not_false, if_true]⟩
theorem chand_loop (k0 : Nat) (K : Unit × Unit → Option ((Int × (Int × Unit)) × Unit)) (h65 : 65 < k0) (im : IM) (hp : im.2.1.length ≤ 64) (hl : im.2.2.1.length ≤ 64) (hk0 : ∀ d, d ∈ im.2.2.1 → d.2.2.1.length < k0 ∧ d.2.2.1.length < 4611686018427387904) : ∀ (m i k : Nat), i + m = im.2.2.1.length → m < k →
    (chansB im.2.1 (im.2.2.1.take i) (im.2.2.1.drop i) = true ∧ loopN (d14_L3 k0 K) k ((im, ()), ((i : Int), ())) = K ((), ())) ∨
    (chansB im.2.1 (im.2.2.1.take i) (im.2.2.1.drop i) = false ∧ ∃ e p, e = 108 ∧ loopN (d14_L3 k0 K) k ((im, ()), ((i : Int), ())) = some ((e, (p, ())), ())) := by
  intro m
  induction m with
  | zero =>
    intro i k hi hk
    obtain ⟨k, rfl⟩ : ∃ k', k = k' + 1 := ⟨k - 1, by omega⟩
    rw [List.drop_eq_nil_of_le (by omega)]
    exact .inl ⟨rfl, by simp only [loopN, d14_L3, lt, dnlt (show im.2.2.1.length ≤ i by omega), Bool.false_eq_true, if_false]⟩
  | succ m ih =>
    intro i k hi hk
    obtain ⟨k, rfl⟩ : ∃ k', k = k' + 1 := ⟨k - 1, by omega⟩
    have h1 : i < im.2.2.1.length := by omega
    rw [List.drop_eq_getElem_cons h1, chansB]
    simp only [loopN, d14_L3, lt, shr, dlt h1, d51_eq k0 im i h1 hl hp h65 hk0, Option.bind_some, if_true]
    cases a : chanB im.2.1 (im.2.2.1.take i) im.2.2.1[i] with
    | true =>
      rw [← List.take_succ_eq_append_getElem h1]
      have hih := ih (i + 1) k (by omega) (by omega)
      simp only [Bool.not_true, Bool.false_eq_true, if_false, Bool.true_and, d14_K2, wr1 (show i < 4611686018427387904 by omega)]
      exact hih
    | false => exact .inr ⟨by simp only [Bool.false_and], 108, ((i + 1 : Nat) : Int), rfl, by simp only [Bool.not_false, if_true, wr1 (show i < 4611686018427387904 by omega)]⟩
theorem d14_err (k : Nat) (im : IM) (hf : Fits k im) : (CheckOk im ∧ d14 k (im, ()) = some ((0, (0, ())), ())) ∨ (¬ CheckOk im ∧ ∃ e p, e = errI im ∧ d14 k (im, ()) = some ((e, (p, ())), ())) := by
  have hk := hf.fuel
  simp only [d14, lt, many_num, shr]
  by_cases hn : im.1.length ≤ 32 ∧ im.2.1.length ≤ 64 ∧ im.2.2.1.length ≤ 64
  · obtain ⟨n1, n2, n3⟩ := hn
    simp only [n1, n2, n3, and_self, decide_true, Bool.not_true, Bool.false_eq_true, if_false]
    have e1 := cntd_loop k (d14_K10 k) im (by omega) im.1.length 0 k (by omega) (by omega)
    rw [List.drop_zero] at e1
    rcases e1 with ⟨a1, b1⟩ | ⟨a1, e, p, hy, b1⟩
    rotate_left
    · exact .inr ⟨fun h => (by rw [h.cnt] at a1; cases a1), e, p, hy.trans (errI_2 ⟨n1, n2, n3⟩ a1).symm, b1⟩
    refine go2 b1 ?_
    have ne : ((0 : Int) != 0) = false := rfl
    simp only [d14_K10, lt, shr, d47_eq k im (by omega) (by omega), Option.bind_some]
    rcases sv_ref k (by omega) (im.1.map (fun p => p.1)) with ⟨a2, b2⟩ | ⟨a2, e, p, hy, b2⟩
    rotate_left
    · have ne : (e != 0) = true := by rw [hy]; simpa using svE_ne (im.1.map (fun p => p.1))
      have hno : ¬ hyOk (im.1.map (fun p => p.1)) := fun h => a2 h.1
      have hE : hyE (im.1.map (fun p => p.1)) = svE (im.1.map (fun p => p.1)) := by unfold hyE; rw [if_pos (show ¬ svs _ from a2)]
      exact .inr ⟨fun h => a2 h.hyper.1, e, p, hy.trans (hE.symm.trans (errI_3 ⟨n1, n2, n3⟩ a1 hno).symm), by rw [b2]; simp only [Option.bind_some, ne, if_true]⟩
    rw [b2]
    simp only [Option.bind_some, ne, Bool.false_eq_true, if_false]
    rcases hyper_ref k hk (im.1.map (fun p => p.1)) with ⟨a3, h, _, b3⟩ | ⟨a3, e, hy, b3⟩
    rotate_left
    · have ne : (e != 0) = true := by rw [hy]; simpa using hyE_ne (im.1.map (fun p => p.1))
      exact .inr ⟨fun h => a3 h.hyper, e, 0, hy.trans (errI_3 ⟨n1, n2, n3⟩ a1 a3).symm, by rw [b3]; simp only [Option.bind_some, ne, if_true]⟩
    rw [b3]
    simp only [Option.bind_some, ne, Bool.false_eq_true, if_false]
    have hz : ∀ p, p ∈ im.1 → sizesOk p := fun p hp => ⟨List.all_eq_true.1 a1 p hp, hf.heal p hp⟩
    have e3 := partd_loop k (d14_K7 k) (by omega) im hz (by omega) im.1.length 0 k (by omega) (by omega)
    rw [List.drop_zero] at e3
    rcases e3 with ⟨a4, b4⟩ | ⟨a4, e, p, hy, b4⟩
    rotate_left
    · exact .inr ⟨fun h => (by rw [h.parts] at a4; cases a4), e, p, hy.trans (errI_4 ⟨n1, n2, n3⟩ a1 a3 a4).symm, b4⟩
    refine go2 b4 ?_
    simp only [d14_K7, shr]
    have e4 := portd_loop k (d14_K4 k) im (by omega) im.2.1.length 0 k (by omega) (by omega)
    rw [List.drop_zero] at e4
    rcases e4 with ⟨a5, b5⟩ | ⟨a5, e, p, hy, b5⟩
    rotate_left
    · exact .inr ⟨fun h => (by rw [h.ports] at a5; cases a5), e, p, hy.trans (errI_5 ⟨n1, n2, n3⟩ a1 a3 a4 a5).symm, b5⟩
    refine go2 b5 ?_
    simp only [d14_K4, shr]
    have e5 := chand_loop k d14_K1 (by omega) im n2 n3 hf.tos im.2.2.1.length 0 k (by omega) (by omega)
    rw [List.drop_zero, List.take_zero] at e5
    rcases e5 with ⟨a6, b6⟩ | ⟨a6, e, p, hy, b6⟩
    · exact .inl ⟨⟨n1, n2, n3, a1, a3, a4, a5, a6⟩, b6⟩
    · exact .inr ⟨fun h => (by rw [h.chans] at a6; cases a6), e, p, hy.trans (errI_6 ⟨n1, n2, n3⟩ a1 a3 a4 a5 a6).symm, b6⟩
  · refine .inr ⟨fun h => hn ⟨h.nparts, h.nports, h.nchans⟩, 100, 0, (errI_1 hn).symm, ?_⟩
    simp only [hn, decide_false, Bool.not_false, if_true]
theorem d14_eq (k : Nat) (im : IM) (hf : Fits k im) : (CheckOk im ∧ d14 k (im, ()) = some ((0, (0, ())), ())) ∨ (¬ CheckOk im ∧ ∃ e p, e ≠ (0 : Int) ∧ d14 k (im, ()) = some ((e, (p, ())), ())) :=
  (d14_err k im hf).imp id fun ⟨a, e, p, he, b⟩ => ⟨a, e, p, by rw [he]; exact errI_ne a, b⟩
end Go.Proofs.YtekgngedamnmaaaGreatDoor.L
