import Derived.Test.YtjnnmgjpnbfhlaaGreatDoorCeL3
namespace Go.Proofs.YtjnnmgjpnbfhlaaGreatDoor.L
open Go Go.Lift
set_option linter.unusedVariables false
set_option linter.unusedSimpArgs false
set_option maxRecDepth 100000

theorem chansB_at (ps : List PO) : ∀ (cs bef : List CH), C.chansB ps bef cs = true → ∀ i (h : i < cs.length), C.chanB ps (bef ++ cs.take i) cs[i] = true := by
  intro cs
  induction cs with
  | nil => intro bef _ i h; exact absurd h (Nat.not_lt_zero _)
  | cons c cs ih =>
    intro bef hb i h
    rw [C.chansB, Bool.and_eq_true] at hb
    cases i with
    | zero => simpa using hb.1
    | succ i =>
      have := ih (bef ++ [c]) hb.2 i (by simpa using h)
      simpa [List.append_assoc] using this
theorem chan_ok {x : IM} (h : C.CheckOk x) (i : Nat) (hi : i < x.2.2.1.length) : C.chanB x.2.1 (x.2.2.1.take i) x.2.2.1[i] = true := by
  have := chansB_at x.2.1 x.2.2.1 [] h.chans i hi
  simpa using this
theorem take_mem {x : IM} {i j : Nat} (hi : i < j) (hj : j < x.2.2.1.length) : x.2.2.1[i]'(by omega) ∈ x.2.2.1.take j := by
  refine List.mem_iff_getElem.2 ⟨i, by rw [List.length_take]; omega, ?_⟩
  rw [List.getElem_take]
theorem from_find {x : IM} (h : C.CheckOk x) (j : Nat) (hj : j < x.2.2.1.length) (h0 : x.2.2.1[j].2.1 > 0) : findN (fun c => c.2.1 == x.2.2.1[j].2.1) 0 x.2.2.1 = ((j + 1 : Nat) : Int) := by
  have hc := chan_ok h j hj
  have z : (x.2.2.1[j].2.1 == 0) = false := by rw [beq_eq_false_iff_ne]; omega
  simp only [C.chanB, C.fromB, z, Bool.false_eq_true, if_false, Bool.and_eq_true, Bool.not_eq_true', List.any_eq_false] at hc
  have := findN_at (fun c => c.2.1 == x.2.2.1[j].2.1) x.2.2.1 0 j hj (by simp) (fun i hi => by
    have := hc.1.1.2.2 _ (take_mem hi hj)
    simpa using this)
  rw [this, Nat.zero_add]
theorem to_find {x : IM} (h : C.CheckOk x) (j : Nat) (hj : j < x.2.2.1.length) (t : Int) (ht : t ∈ x.2.2.1[j].2.2.1) : 1 ≤ t ∧ findN (fun c => c.2.2.1.any (fun u => u == t)) 0 x.2.2.1 = ((j + 1 : Nat) : Int) := by
  have hc := chan_ok h j hj
  simp only [C.chanB, Bool.and_eq_true] at hc
  obtain ⟨h1, _, _, h4, _⟩ := C.toB_mem hc.1.2 t ht
  rw [C.wi_iff] at h1
  refine ⟨h1.1, ?_⟩
  have h4 : ((x.2.2.1.take j).any fun d => d.2.2.1.any fun u => u == t) = false := h4
  rw [List.any_eq_false] at h4
  have := findN_at (fun c => c.2.2.1.any (fun u => u == t)) x.2.2.1 0 j hj (List.any_eq_true.2 ⟨t, ht, by simp⟩) (fun i hi => by
    have := h4 _ (take_mem hi hj)
    exact Bool.eq_false_iff.2 this)
  rw [this, Nat.zero_add]
theorem l4_loop {k0 : Nat} {x : IM} (h : Fit k0 x) (hc : C.CheckOk x) (j : Nat) (hj : j < x.2.2.1.length) (K : (IM × Unit) × (Int × Unit) → Option ((Bool × Unit) × Unit)) : ∀ (m i k : Nat), i + m = x.2.2.1[j].2.2.1.length → m < k →
    loopN (d3_L4 k0 K) k ((x.2.2.1[j], (x, ())), ((i : Int), (((j + 1 : Nat) : Int), ()))) = K ((x, ()), (((j + 1 : Nat) : Int), ())) := by
  have hm := List.getElem_mem hj
  have ht8 := h.to8 _ hm
  intro m
  induction m with
  | zero =>
    intro i k hi hk
    obtain ⟨k, rfl⟩ : ∃ k', k = k' + 1 := ⟨k - 1, by omega⟩
    simp only [loopN, d3_L4, lt, dnlt (show x.2.2.1[j].2.2.1.length ≤ i by omega), Bool.false_eq_true, if_false]
  | succ m ih =>
    intro i k hi hk
    obtain ⟨k, rfl⟩ : ∃ k', k = k' + 1 := ⟨k - 1, by omega⟩
    have h1 : i < x.2.2.1[j].2.2.1.length := by omega
    have hih := ih (i + 1) k (by omega) (by omega)
    obtain ⟨t1, t2⟩ := to_find hc j hj _ (List.getElem_mem h1)
    have nn : (((j + 1 : Nat) : Int) != ((j + 1 : Nat) : Int)) = false := by simp
    have n1 : ¬ x.2.2.1[j].2.2.1[i] < 1 := by omega
    simp only [loopN, d3_L4, lt, shr, dlt h1, dge0, Bool.and_self, if_true, Int.toNat_natCast, getD_mem h1, d13_eq h.sane, n1, if_false, t2, nn, Option.bind_some, Bool.false_eq_true, d3_K3, wr1 (show i < 4611686018427387904 by omega), hih]
theorem l5_loop {k0 : Nat} {x : IM} (h : Fit k0 x) (hc : C.CheckOk x) : ∀ (m j k : Nat), j + m = x.2.2.1.length → m < k →
    loopN (d3_L5 k0 (fun _ => some ((true, ()), ()))) k ((x, ()), (((j + 1 : Nat) : Int), ())) = some ((true, ()), ()) := by
  have hs1 := h.sane.1
  intro m
  induction m with
  | zero =>
    intro j k hi hk
    obtain ⟨k, rfl⟩ : ∃ k', k = k' + 1 := ⟨k - 1, by omega⟩
    have g : decide (((j + 1 : Nat) : Int) ≤ (x.2.2.1.length : Int)) = false := decide_eq_false (by omega)
    simp only [loopN, d3_L5, lt, g, Bool.false_eq_true, if_false]
  | succ m ih =>
    intro j k hi hk
    obtain ⟨k, rfl⟩ : ∃ k', k = k' + 1 := ⟨k - 1, by omega⟩
    have hj : j < x.2.2.1.length := by omega
    have hih := ih (j + 1) k (by omega) (by omega)
    have g : decide (((j + 1 : Nat) : Int) ≤ (x.2.2.1.length : Int)) = true := decide_eq_true (by omega)
    have e3 : IntKind.wrap .i64 (((j + 1 : Nat) : Int) - 1) = (j : Int) := by rw [wrap_id (by omega) (by omega)]; omega
    have hl := l4_loop h hc j hj (d3_K2 (d3_K1 (loopN (d3_L5 k0 (fun _ => some ((true, ()), ()))) k))) x.2.2.1[j].2.2.1.length 0 k0 (by omega) (by have := h.kto _ (List.getElem_mem hj); omega)
    have ei : IntKind.wrap .i64 (((j + 1 : Nat) : Int) + 1) = ((j + 1 + 1 : Nat) : Int) := wr1 (by omega)
    have fin : d3_K2 (d3_K1 (loopN (d3_L5 k0 (fun _ => some ((true, ()), ()))) k)) ((x, ()), (((j + 1 : Nat) : Int), ())) = some ((true, ()), ()) := by
      simp only [d3_K2, d3_K1, ei]
      exact hih
    have nn : (((j + 1 : Nat) : Int) != ((j + 1 : Nat) : Int)) = false := by simp
    simp only [loopN, d3_L5, lt, shr, g, if_true, e3, dge0, dlt hj, Bool.and_self, Int.toNat_natCast, getD_mem hj, d12_eq h.sane]
    by_cases hp : x.2.2.1[j].2.1 > 0
    · have n1 : ¬ x.2.2.1[j].2.1 < 1 := by omega
      simp only [decide_eq_true hp, beq_self_eq_true, Bool.and_self, if_true, n1, if_false, from_find hc j hj hp, nn, Option.bind_some, Bool.false_eq_true]
      exact hl.trans fin
    · simp only [decide_eq_false hp, Bool.false_eq_true, if_false, Option.bind_some, show (false == true) = false from rfl, Bool.false_and]
      exact hl.trans fin
theorem l8_loop {k0 : Nat} {x : IM} (h : Fit k0 x) (part : Int) (hK : d3_K6 k0 ((x, ()), ()) = some ((true, ()), ())) : ∀ (m j k : Nat), j + m = x.2.2.1.length → m < k →
    loopN (d3_L8 k0 (d3_K6 k0)) k ((listN (inlB x part) 0 x.2.2.1, (listN (outB x part) 0 x.2.2.1, (x, ()))), (((j + 1 : Nat) : Int), (part, ()))) = some ((true, ()), ()) := by
  have hs1 := h.sane.1
  intro m
  induction m with
  | zero =>
    intro j k hi hk
    obtain ⟨k, rfl⟩ : ∃ k', k = k' + 1 := ⟨k - 1, by omega⟩
    have g : decide (((j + 1 : Nat) : Int) ≤ (x.2.2.1.length : Int)) = false := decide_eq_false (by omega)
    simp only [loopN, d3_L8, lt, g, Bool.false_eq_true, if_false]
    exact hK
  | succ m ih =>
    intro j k hi hk
    obtain ⟨k, rfl⟩ : ∃ k', k = k' + 1 := ⟨k - 1, by omega⟩
    have hj : j < x.2.2.1.length := by omega
    have hih := ih (j + 1) k (by omega) (by omega)
    have hm := List.getElem_mem hj
    have ht := h.kto _ hm
    have ht8 := h.to8 _ hm
    have htl := toN_len x x.2.2.1[j]
    have g : decide (((j + 1 : Nat) : Int) ≤ (x.2.2.1.length : Int)) = true := decide_eq_true (by omega)
    have ei : IntKind.wrap .i64 (((j + 1 : Nat) : Int) + 1) = ((j + 1 + 1 : Nat) : Int) := wr1 (by omega)
    have h9 := d9_eq k0 x h.sane.2.1 j hj (by omega) ht8 ht
    have hto : d10 k0 (toN x x.2.2.1[j], (part, ())) = some ((if x.2.2.1[j].2.2.1.length = 0 then (0 == part) else x.2.2.1[j].2.2.1.any (fun u => partN x u == part), ()), ()) := by
      rw [d10_eq k0 _ _ (by omega) (by omega), toN_any]
    simp only [loopN, d3_L8, lt, shr, g, if_true, d8_eq h j hj, Option.bind_some, Bool.not_true, Bool.false_eq_true, if_false, h9, has_at h _ j hj, hto, d3_K7, ei]
    by_cases hp : part ≥ 1
    · have e1 : outB x part x.2.2.1[j] = (partN x x.2.2.1[j].2.1 == part) := by
        simp only [outB, decide_eq_true (show part > 0 by omega), Bool.true_and]
      have e2 : inlB x part x.2.2.1[j] = (if x.2.2.1[j].2.2.1.length = 0 then (0 == part) else x.2.2.1[j].2.2.1.any (fun u => partN x u == part)) := by
        simp only [inlB, decide_eq_true (show part > 0 by omega), Bool.true_and]
        split
        · rename_i h0
          rw [List.length_eq_zero_iff.1 h0]
          have : ((0 : Int) == part) = false := by rw [beq_eq_false_iff_ne]; omega
          rw [this]; rfl
        · rfl
      simp only [decide_eq_true hp, e1, e2, beq_self_eq_true, Bool.and_self, if_true, Option.bind_some, Bool.not_true, Bool.false_eq_true, if_false]
      exact hih
    · simp only [decide_eq_false hp, Bool.false_eq_true, if_false, Option.bind_some, show (false == true) = false from rfl, Bool.false_and, Bool.and_false]
      exact hih
theorem d4_eq (k : Nat) : d4 (k + 40) () = some ((true, ()), ()) := by kernel_rfl
theorem d3_eq (k : Nat) (x : IM) (part : Int) (h : Fit k x) (hf : C.Fits k x) : d3 k (x, (part, ())) = some ((true, ()), ()) := by
  have hs1 := h.sane.1
  have hkn : d4 k () = some ((true, ()), ()) := by
    have := hf.fuel
    obtain ⟨k', rfl⟩ : ∃ k', k = k' + 40 := ⟨k - 40, by omega⟩
    exact d4_eq k'
  have hkk := h.kch
  have l1 := listN_len (outB x part) x.2.2.1 0
  have l2 := listN_len (inlB x part) x.2.2.1 0
  have h7a := d7_eq k (listN (outB x part) 0 x.2.2.1) (by omega) (by omega) (listN_lt _ _ _)
  have h7b := d7_eq k (listN (inlB x part) 0 x.2.2.1) (by omega) (by omega) (listN_lt _ _ _)
  have hK : d3_K6 k ((x, ()), ()) = some ((true, ()), ()) := by
    rcases C.d96_eq k x hf with ⟨hc, h11⟩ | ⟨_, e, p, he, h11⟩
    · have z0 : ((0 : Int) != 0) = false := rfl
      simp only [d3_K6, lt, shr, h11, Option.bind_some, z0, Bool.false_eq_true, if_false]
      exact l5_loop h hc x.2.2.1.length 0 k (by omega) (by omega)
    · have z0 : (e != 0) = true := by simpa using he
      simp only [d3_K6, lt, shr, h11, Option.bind_some, z0, if_true]
  have hl := l8_loop h part hK x.2.2.1.length 0 k (by omega) (by omega)
  have emp : (if decide (part < 1) = true then decide (IntKind.wrap .i64 (((listN (outB x part) 0 x.2.2.1).length : Int) + ((listN (inlB x part) 0 x.2.2.1).length : Int)) > 0) else false) = false := by
    by_cases hp : part < 1
    · have d0 : decide (part > 0) = false := decide_eq_false (by omega)
      rw [listN_none (p := outB x part) (fun c => by simp only [outB, d0, Bool.false_and]), listN_none (p := inlB x part) (fun c => by simp only [inlB, d0, Bool.false_and])]
      rw [if_pos (decide_eq_true hp)]
      decide
    · rw [if_neg (by simpa using hp)]
  simp only [d3, lt, shr, hkn, d5_eq h.sane, d6_eq h.sane, h7a, h7b, Option.bind_some, Bool.not_true, Bool.false_eq_true, if_false, beq_self_eq_true, Bool.and_self, if_true, emp]
  exact hl
end Go.Proofs.YtjnnmgjpnbfhlaaGreatDoor.L
