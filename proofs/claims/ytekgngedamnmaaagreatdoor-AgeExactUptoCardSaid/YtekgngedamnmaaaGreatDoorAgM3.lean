import Derived.Test.YtekgngedamnmaaaGreatDoorAgM2
namespace Go.Proofs.YtekgngedamnmaaaGreatDoor.L
open Go Go.Lift
set_option linter.unusedVariables false
set_option linter.unusedSimpArgs false
set_option maxRecDepth 100000

/-! ### the hyperperiod -/
theorem fit1 {n b : Nat} (h : (n + 1) * b ≤ 140737488355328) (h2 : n + 1 ≤ 4611686018427387904) : appFits n 1 b = true := by
  simp [appFits, h, h2]
def vs (l : List SV) : List Int := List.map (fun s : SV => s.1) l
def pers (l : List SV) : List Nat := List.map (fun s : SV => s.1.toNat) l
theorem vs_len (l : List SV) : (vs l).length = l.length := List.length_map ..
theorem pers_len (l : List SV) : (pers l).length = l.length := List.length_map ..
theorem vs_get {l : List SV} {i : Nat} (h : i < l.length) : (vs l).getD i 0 = (l.getD i sv0).1 := by
  rw [List.getD_eq_getElem?_getD, List.getD_eq_getElem?_getD, List.getElem?_eq_getElem h, List.getElem?_eq_getElem (by rw [vs_len]; exact h)]
  simp [vs]
theorem vs_take {l : List SV} {i : Nat} (h : i < l.length) : (vs l).take i ++ [(l.getD i sv0).1] = (vs l).take (i + 1) := by
  have h' : i < (vs l).length := by rw [vs_len]; exact h
  rw [← vs_get h, List.getD_eq_getElem?_getD, List.getElem?_eq_getElem h']
  exact List.take_append_getElem h'
def svs (l : List SV) : Prop := l.length ≤ 32 ∧ ∀ j, j < l.length → okAt l j
theorem svs_per {l : List SV} (h : svs l) : ∀ s ∈ l, 1 ≤ s.1 ∧ s.1 ≤ 1048576 := by
  intro s hs
  obtain ⟨i, hi, rfl⟩ := List.mem_iff_getElem.1 hs
  have := (h.2 i hi).1
  have e : l.getD i sv0 = l[i] := by rw [List.getD_eq_getElem?_getD, List.getElem?_eq_getElem hi]; rfl
  rw [e] at this
  unfold svB at this
  simp only [Bool.and_eq_true] at this
  exact wi_iff.1 this.1.1.1
theorem svs_ints {l : List SV} (h : svs l) : ints (pers l) = vs l := by
  unfold ints pers vs
  rw [List.map_map]
  refine List.map_congr_left fun s hs => ?_
  have := svs_per h s hs
  show ((s.1.toNat : Nat) : Int) = s.1
  omega
theorem svs_pOk {l : List SV} (h : svs l) : pOk (pers l) := by
  intro x hx
  obtain ⟨s, hs, rfl⟩ := List.mem_map.1 hx
  have := svs_per h s hs
  omega
def rel (h : Int) : List Int → Int → Int
  | [], n => n
  | p :: ps, n => rel h ps (IntKind.wrap .i64 (n + IntKind.wrap .i64 (Int.tdiv (IntKind.wrap .i64 (2 * h)) p)))

theorem build_loop (K : ((List Int) × Unit) × Unit → Option ((Int × (Option I2 × Unit)) × Unit)) (l : List SV) (hl : l.length ≤ 32) : ∀ (m i k : Nat), i + m = l.length → m < k →
    loopN (d118_L6 K) k (((vs l).take i, ()), ((i : Int), (l, ((l.length : Int), ())))) = K ((vs l, ()), ()) := by
  intro m
  induction m with
  | zero =>
    intro i k hi hk
    obtain ⟨k, rfl⟩ : ∃ k', k = k' + 1 := ⟨k - 1, by omega⟩
    have : (vs l).take i = vs l := List.take_of_length_le (by rw [vs_len]; omega)
    simp only [loopN, d118_L6, lt, dnlt (show l.length ≤ i by omega), Bool.false_eq_true, if_false, this]
  | succ m ih =>
    intro i k hi hk
    obtain ⟨k, rfl⟩ : ∃ k', k = k' + 1 := ⟨k - 1, by omega⟩
    have h1 : i < l.length := by omega
    have f1 : appFits ((vs l).take i).length [(l.getD i sv0).1].length 8 = true := by
      apply fit1 <;> simp only [List.length_take] <;> omega
    have f1 : appFits (List.length ((vs l).take i)) (List.length [(l.getD i sv0).1]) 8 = true := f1
    simp only [loopN, d118_L6, lt, shr, dlt h1, dge0, Bool.and_self, if_true, Int.toNat_natCast, f1, d118_K5, wr1 (show i < 4611686018427387904 by omega), vs_take h1]
    exact ih (i + 1) k (by omega) (by omega)
theorem buildr_loop (K : ((List Int) × Unit) × Unit → Option ((Int × (Bool × Unit)) × Unit)) (l : List SV) (hl : l.length ≤ 32) : ∀ (m i k : Nat), i + m = l.length → m < k →
    loopN (d99_L3 K) k (((vs l).take i, ()), ((i : Int), (l, ()))) = K ((vs l, ()), ()) := by
  intro m
  induction m with
  | zero =>
    intro i k hi hk
    obtain ⟨k, rfl⟩ : ∃ k', k = k' + 1 := ⟨k - 1, by omega⟩
    have : (vs l).take i = vs l := List.take_of_length_le (by rw [vs_len]; omega)
    simp only [loopN, d99_L3, lt, dnlt (show l.length ≤ i by omega), Bool.false_eq_true, if_false, this]
  | succ m ih =>
    intro i k hi hk
    obtain ⟨k, rfl⟩ : ∃ k', k = k' + 1 := ⟨k - 1, by omega⟩
    have h1 : i < l.length := by omega
    have f1 : appFits (List.length ((vs l).take i)) (List.length [(l.getD i sv0).1]) 8 = true := by
      apply fit1 <;> simp only [List.length_take] <;> omega
    simp only [loopN, d99_L3, lt, shr, dlt h1, dge0, Bool.and_self, if_true, Int.toNat_natCast, f1, d99_K2, wr1 (show i < 4611686018427387904 by omega), vs_take h1]
    exact ih (i + 1) k (by omega) (by omega)
theorem rel_loop (K : Unit × (Int × (Int × Unit)) → Option ((Int × (Option I2 × Unit)) × Unit)) (l : List SV) (hs : svs l) (h : Int) : ∀ (m i k : Nat) (n : Int), i + m = l.length → m < k →
    loopN (d118_L3 K) k ((vs l, ()), ((i : Int), (h, (n, ((l.length : Int), ()))))) = K ((), (h, (rel h ((vs l).drop i) n, ()))) := by
  have hl := hs.1
  intro m
  induction m with
  | zero =>
    intro i k n hi hk
    obtain ⟨k, rfl⟩ : ∃ k', k = k' + 1 := ⟨k - 1, by omega⟩
    have : (vs l).drop i = [] := List.drop_eq_nil_of_le (by rw [vs_len]; omega)
    simp only [loopN, d118_L3, lt, dnlt (show l.length ≤ i by omega), Bool.false_eq_true, if_false, this, rel]
  | succ m ih =>
    intro i k n hi hk
    obtain ⟨k, rfl⟩ : ∃ k', k = k' + 1 := ⟨k - 1, by omega⟩
    have h1 : i < l.length := by omega
    have h2 : i < (vs l).length := by rw [vs_len]; exact h1
    have hlen : ((vs l).length : Int) = (l.length : Int) := by rw [vs_len]
    have e : (vs l).getD i 0 = (vs l)[i] := by rw [List.getD_eq_getElem?_getD, List.getElem?_eq_getElem h2]; rfl
    have hp : 1 ≤ (vs l)[i] := by
      obtain ⟨s, hs', he⟩ := List.mem_map.1 (List.getElem_mem h2)
      have := svs_per hs s hs'
      rw [← he]; exact this.1
    have hz : ((vs l)[i] == 0) = false := by rw [beq_eq_false_iff_ne]; omega
    rw [List.drop_eq_getElem_cons h2]
    simp only [loopN, d118_L3, lt, shr, dlt h1, dge0, hlen, dlt h2, decide_eq_true h2, Bool.and_self, if_true, Int.toNat_natCast, e, hz, Bool.not_false, d118_K2, wr1 (show i < 4611686018427387904 by omega), rel]
    exact ih (i + 1) k _ (by omega) (by omega)
theorem relr_loop (K : Unit × (Int × (Int × Unit)) → Option ((Int × (Int × Unit)) × Unit)) (l : List SV) (hs : svs l) (h : Int) : ∀ (m i k : Nat) (n : Int), i + m = l.length → m < k →
    loopN (d48_L3 K) k ((), ((i : Int), (l, (h, (n, ()))))) = K ((), (h, (rel h ((vs l).drop i) n, ()))) := by
  have hl := hs.1
  intro m
  induction m with
  | zero =>
    intro i k n hi hk
    obtain ⟨k, rfl⟩ : ∃ k', k = k' + 1 := ⟨k - 1, by omega⟩
    have : (vs l).drop i = [] := List.drop_eq_nil_of_le (by rw [vs_len]; omega)
    simp only [loopN, d48_L3, lt, dnlt (show l.length ≤ i by omega), Bool.false_eq_true, if_false, this, rel]
  | succ m ih =>
    intro i k n hi hk
    obtain ⟨k, rfl⟩ : ∃ k', k = k' + 1 := ⟨k - 1, by omega⟩
    have h1 : i < l.length := by omega
    have h2 : i < (vs l).length := by rw [vs_len]; exact h1
    have e : (l.getD i sv0).1 = (vs l)[i] := by rw [← vs_get h1, List.getD_eq_getElem?_getD, List.getElem?_eq_getElem h2]; rfl
    have hp : 1 ≤ (vs l)[i] := by
      obtain ⟨s, hs', he⟩ := List.mem_map.1 (List.getElem_mem h2)
      have := svs_per hs s hs'
      rw [← he]; exact this.1
    have hz : ((vs l)[i] == 0) = false := by rw [beq_eq_false_iff_ne]; omega
    rw [List.drop_eq_getElem_cons h2]
    simp only [loopN, d48_L3, lt, shr, dlt h1, dge0, Bool.and_self, if_true, Int.toNat_natCast, e, hz, Bool.not_false, d48_K2, wr1 (show i < 4611686018427387904 by omega), rel]
    exact ih (i + 1) k _ (by omega) (by omega)
def hyOk (l : List SV) : Prop := svs l ∧ ∃ h, lcmF 1 (pers l) = some h ∧ ¬ rel h (vs l) 0 > 65536
open Classical in
/-- Which error servers lead to, with their hyperperiod. -/
noncomputable def hyE (l : List SV) : Int := if ¬ svs l then svE l else if lcmF 1 (pers l) = none then 102 else 103
theorem hyE_ne (l : List SV) : hyE l ≠ 0 := by
  unfold hyE
  split
  · exact svE_ne l
  · split <;> decide
theorem hyper_num (k : Nat) (hk : 1048600 < k) (l : List SV) : (hyOk l ∧ ∃ h, lcmF 1 (pers l) = some h ∧ d118 k (l, ()) = some (((h : Int), (none, ())), ())) ∨ (¬ hyOk l ∧ ∃ y, y.1 = hyE l ∧ d118 k (l, ()) = some ((0, (some y, ())), ())) := by
  rcases sv_check k (by omega) l with ⟨a1, a2, a3⟩ | ⟨a1, e, p, a2, a3⟩
  · have hs : svs l := ⟨a1, a2⟩
    have c1 : (((decide ((0 : Int) ≤ 0) && decide ((0 : Int) ≤ (l.length : Int))) && decide ((((8 : Nat) : Int) * (l.length : Int)) ≤ 281474976710656)) && decide ((l.length : Int) ≤ 9223372036854775807)) = true := by
      simp only [Bool.and_eq_true, decide_eq_true_eq]; omega
    have b1 := build_loop (d118_K4 k) l a1 l.length 0 k (by omega) (by omega)
    have e0 : (vs l).take 0 = List.replicate (Int.toNat 0) 0 := rfl
    rw [e0] at b1
    have b2 := lcm_num k hk (pers l) (svs_pOk hs) (by rw [pers_len]; exact a1)
    rw [svs_ints hs] at b2
    have hlen : ((vs l).length : Int) = (l.length : Int) := by rw [vs_len]
    cases hm : lcmF 1 (pers l) with
    | none =>
      rw [hm] at b2
      refine .inr ⟨fun h => (by obtain ⟨_, h, h2, _⟩ := h; rw [hm] at h2; cases h2), (102, (0, ())), (by unfold hyE; rw [if_neg (fun h => h hs), if_pos hm]), ?_⟩
      simp only [d118, lt, shr, a3, Option.bind_some, Option.isNone_none, Bool.not_true, Bool.false_eq_true, if_false, c1, if_true]
      refine Eq.trans b1 ?_
      simp only [d118_K4, lt, b2, lcmR, Option.bind_some, Bool.not_false, if_true]
    | some h =>
      rw [hm] at b2
      have b3 := rel_loop d118_K1 l hs (h : Int) l.length 0 k 0 (by omega) (by omega)
      rw [List.drop_zero] at b3
      have go : ∀ X, d118_K1 ((), ((h : Int), (rel (h : Int) (vs l) 0, ()))) = X → d118 k (l, ()) = X := by
        intro X hX
        simp only [d118, lt, shr, a3, Option.bind_some, Option.isNone_none, Bool.not_true, Bool.false_eq_true, if_false, c1, if_true]
        refine Eq.trans b1 ?_
        simp only [d118_K4, lt, shr, b2, lcmR, Option.bind_some, Bool.not_true, Bool.false_eq_true, if_false, hlen]
        exact b3.trans hX
      by_cases hr : rel (h : Int) (vs l) 0 > 65536
      · refine .inr ⟨fun h' => (by obtain ⟨_, h2, h3, h4⟩ := h'; rw [hm] at h3; obtain rfl := Option.some.inj h3; exact h4 hr), (103, (0, ())), (by unfold hyE; rw [if_neg (fun h => h hs), if_neg (by rw [hm]; exact fun h => by cases h)]), go _ ?_⟩
        simp only [d118_K1, lt, decide_eq_true hr, if_true]
      · refine .inl ⟨⟨hs, h, hm, hr⟩, h, rfl, go _ ?_⟩
        simp only [d118_K1, lt, decide_eq_false hr, Bool.false_eq_true, if_false]
  · refine .inr ⟨fun h => a1 h.1, (e, (p, ())), (by unfold hyE; rw [if_pos (show ¬ svs l from a1)]; exact a2), ?_⟩
    simp only [d118, lt, a3, Option.bind_some, Option.isNone_some, Bool.not_false, if_true]
theorem hyper_ref (k : Nat) (hk : 1048600 < k) (l : List SV) : (hyOk l ∧ ∃ h, lcmF 1 (pers l) = some h ∧ d48 k (l, ()) = some (((h : Int), (0, ())), ())) ∨ (¬ hyOk l ∧ ∃ e, e = hyE l ∧ d48 k (l, ()) = some ((0, (e, ())), ())) := by
  rcases sv_ref k (by omega) l with ⟨⟨a1, a2⟩, a3⟩ | ⟨a1, e, p, a2, a3⟩
  · have hs : svs l := ⟨a1, a2⟩
    have b1 := buildr_loop (d99_K1 k) l a1 l.length 0 k (by omega) (by omega)
    rw [List.take_zero] at b1
    have b2 := lcm_ref k hk (pers l) (svs_pOk hs) (by rw [pers_len]; exact a1)
    rw [svs_ints hs] at b2
    have b4 : d99 k (l, ()) = some (lcmR (lcmF 1 (pers l)), ()) := by
      simp only [d99, shr]
      refine Eq.trans b1 ?_
      simp only [d99_K1, b2, Option.bind_some]
    cases hm : lcmF 1 (pers l) with
    | none =>
      rw [hm] at b4
      refine .inr ⟨fun h => (by obtain ⟨_, h, h2, _⟩ := h; rw [hm] at h2; cases h2), 102, (by unfold hyE; rw [if_neg (fun h => h hs), if_pos hm]), ?_⟩
      simp only [d48, lt, a3, Option.bind_some, bne_self_eq_false, Bool.false_eq_true, if_false, b4, lcmR, Bool.not_false, if_true]
    | some h =>
      rw [hm] at b4
      have b3 := relr_loop d48_K1 l hs (h : Int) l.length 0 k 0 (by omega) (by omega)
      rw [List.drop_zero] at b3
      have go : ∀ X, d48_K1 ((), ((h : Int), (rel (h : Int) (vs l) 0, ()))) = X → d48 k (l, ()) = X := by
        intro X hX
        simp only [d48, lt, shr, a3, Option.bind_some, bne_self_eq_false, Bool.false_eq_true, if_false, b4, lcmR, Bool.not_true]
        exact b3.trans hX
      by_cases hr : rel (h : Int) (vs l) 0 > 65536
      · refine .inr ⟨fun h' => (by obtain ⟨_, h2, h3, h4⟩ := h'; rw [hm] at h3; obtain rfl := Option.some.inj h3; exact h4 hr), 103, (by unfold hyE; rw [if_neg (fun h => h hs), if_neg (by rw [hm]; exact fun h => by cases h)]), go _ ?_⟩
        simp only [d48_K1, lt, decide_eq_true hr, if_true]
      · refine .inl ⟨⟨hs, h, hm, hr⟩, h, rfl, go _ ?_⟩
        simp only [d48_K1, lt, decide_eq_false hr, Bool.false_eq_true, if_false]
  · refine .inr ⟨fun h => a1 h.1, e, (by unfold hyE; rw [if_pos (show ¬ svs l from a1)]; exact a2), ?_⟩
    have hb : (e != 0) = true := by rw [bne_iff_ne, a2]; exact svE_ne l
    simp only [d48, lt, a3, Option.bind_some, hb, if_true]
end Go.Proofs.YtekgngedamnmaaaGreatDoor.L
