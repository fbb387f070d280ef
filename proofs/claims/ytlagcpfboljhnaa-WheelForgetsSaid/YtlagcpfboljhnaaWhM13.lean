import Derived.Test.YtlagcpfboljhnaaWhM12
namespace Go.Proofs.Ytlagcpfboljhnaa.L
open Go Go.Lift
set_option linter.unusedVariables false
set_option linter.unusedSimpArgs false
/-! ### WheelFires: the steps -/
theorem Fired.split {m m' : MP} {to : Int} {rest out : List I2} (h : Fired m top rest) (ho : Fired m to out) (hto : to ≤ top) (hm : ∀ a b, (a, b) ∈ m' ↔ (a, b) ∈ m ∧ to < b) : ∃ rest', Fired m' top rest' ∧ rest = out ++ rest' := by
  have hmem : ∀ x : I2, x ∈ rest.filter (fun f => decide (to < f.1)) ↔ x ∈ rest ∧ to < x.1 := fun x => by rw [List.mem_filter]; simp
  refine ⟨rest.filter fun f => decide (to < f.1), ⟨h.sorted.filter _, fun t id => ?_⟩, ?_⟩
  · rw [hmem, h.mem, hm]
    exact ⟨fun ⟨⟨a, b⟩, c⟩ => ⟨⟨a, c⟩, b⟩, fun ⟨⟨a, c⟩, b⟩ => ⟨⟨a, b⟩, c⟩⟩
  · refine sorted_ext h.sorted (List.pairwise_append.2 ⟨ho.sorted, h.sorted.filter _, fun a ha b hb => ?_⟩) fun x => ?_
    · have hb := ((hmem b).1 hb).2
      obtain ⟨t, id, u⟩ := a
      have ha := ((ho.mem t id).1 ha).2
      exact .inl (by show t < b.1; omega)
    · rw [List.mem_append, hmem]
      obtain ⟨t, id, u⟩ := x
      have e1 := h.mem t id
      have e2 := ho.mem t id
      constructor
      · intro hx
        by_cases c : t ≤ to
        · exact .inl (e2.2 ⟨(e1.1 hx).1, c⟩)
        · exact .inr ⟨hx, by show to < t; omega⟩
      · rintro (hx | hx)
        · have := e2.1 hx
          exact e1.2 ⟨this.1, by omega⟩
        · exact hx.1
abbrev SK : Type := ((List I2 × (List I2 × (Option WH × Unit))) × (List Int × (Int × Unit))) → Option ((Bool × Unit) × Unit)
theorem K3_eq (x0 : Nat) (hx0 : 70000 ≤ x0) (K : SK) (l got rest : List I2) (hl : l.length ≤ 65536) (hgr : got ++ rest = l) (n to : Int) (m : MP) (R : RG) (hi : Inv n m R) (hr : Fired m top rest) (h1 : n ≤ to) (h2 : to ≤ top) (steps : List Int) (i : Int) :
    ∃ m' R' out rest', Inv to m' R' ∧ Fired m' top rest' ∧ (got ++ out) ++ rest' = l ∧
      d3_K3 x0 K ((l, (some (wh n m R), (got, ()))), (steps, (i, (to, ())))) = K ((l, (got ++ out, (some (wh to m' R'), ()))), (steps, (i, ()))) := by
  obtain ⟨m', R', out, a1, a2, a3, a4⟩ := d7_eq x0 hx0 n to m R hi h1 h2
  obtain ⟨rest', b1, b2⟩ := hr.split a3 h2 a4
  refine ⟨m', R', out, rest', a2, b1, by rw [List.append_assoc, ← b2, hgr], ?_⟩
  have hlen : got.length + rest.length = l.length := by rw [← hgr, List.length_append]
  have hlen2 : rest.length = out.length + rest'.length := by rw [b2, List.length_append]
  have hfit : appFits got.length out.length 16 = true := by
    unfold appFits
    simp only [Bool.and_eq_true, decide_eq_true_eq]
    omega
  have c0 : (false == true) = false := rfl
  have c9 : ((false == false) : Bool) = true := rfl
  have c10 : ((true == true) : Bool) = true := rfl
  have c8 : decide ((((got ++ out).length : Nat) : Int) > (l.length : Int)) = false := decide_eq_false (by rw [List.length_append]; omega)
  rcases d12_eq x0 hx0 n m R hi with ⟨e1, e2⟩ | ⟨t, ⟨id0, q1⟩, q2, q3⟩
  · -- no timer
    subst e1
    have hrest : rest = [] := List.eq_nil_iff_forall_not_mem.2 fun x hx => by
      obtain ⟨t, id, u⟩ := x
      have := ((hr.mem t id).1 hx).1
      simp at this
    subst hrest
    have hout : out = [] := by
      have : out.length = 0 := by simp at hlen2; omega
      exact List.length_eq_zero_iff.1 this
    subst hout
    have c1 : decide ((got.length : Int) < (l.length : Int)) = false := decide_eq_false (by simp at hlen; omega)
    have c7 : decide ((([] : List I2).length : Int) > 0) = false := rfl
    unfold d3_K3
    simp only [lt, Option.isSome_some, if_true, Option.getD_some, e2, a1, Option.bind_some, bne_self_eq_false, c1, c9, c0, Bool.not_true, Bool.false_eq_true, if_false, Bool.false_and, Bool.and_false, Bool.not_false, Bool.true_or, c7, hfit, c8]
  · -- the least tick
    obtain ⟨t0, i0, u0⟩ := id0, t, ()
    have hmem : ((t, (id0, ())) : I2) ∈ rest := (hr.mem _ _).2 ⟨q1, Int.le_of_lt (hi.tk _ _ q1).2⟩
    cases rest with
    | nil => cases hmem
    | cons r rs =>
      have hrt : r.1 = t := by
        obtain ⟨rt, ri, ru⟩ := r
        have g1 := q2 ri rt ((hr.mem rt ri).1 (List.mem_cons_self ..)).1
        have hs := (List.pairwise_cons.1 hr.sorted).1
        rcases List.mem_cons.1 hmem with e | e
        · exact (congrArg Prod.fst e).symm
        · rcases hs _ e with h | h
          · have h : rt < t := h
            show rt = t
            omega
          · exact h.1
      have hgl : got.length < l.length := by simp at hlen; omega
      have c1 : decide ((got.length : Int) < (l.length : Int)) = true := decide_eq_true (by omega)
      have c2 : decide ((0 : Int) ≤ (got.length : Int)) = true := decide_eq_true (by omega)
      have c3 : decide ((got.length : Int).toNat < l.length) = true := decide_eq_true (by omega)
      have c4 : (l.getD (got.length : Int).toNat (0, (0, ()))).1 = t := by
        rw [Int.toNat_natCast, getD_get hgl, ← hrt]
        congr 1
        subst hgr
        rw [List.getElem_append_right (Nat.le_refl _)]
        simp
      unfold d3_K3
      simp only [lt, Option.isSome_some, if_true, Option.getD_some, q3, a1, Option.bind_some, bne_self_eq_false, c1, c2, c3, c4, c10, c9, Bool.and_self, Bool.and_true, Bool.or_true, Bool.not_true, Bool.false_eq_true, if_false]
      cases out with
      | nil =>
        have c7 : decide ((([] : List I2).length : Int) > 0) = false := rfl
        simp only [c7, c0, Bool.false_and, Bool.not_false, Bool.true_or, if_true, Bool.false_eq_true, if_false, hfit, c8]
      | cons o os =>
        have ho : o = r := (List.cons.inj b2).1.symm
        have c7 : decide (((o :: os).length : Int) > 0) = true := decide_eq_true (by simp)
        have c6 : decide ((0 : Int) ≤ 0) = true := rfl
        have c5 : decide ((0 : Int) < ((o :: os).length : Int)) = true := c7
        have c11 : decide ((0 : Int).toNat < (o :: os).length) = true := decide_eq_true (by simp)
        have c12 : ((o :: os).getD (0 : Int).toNat (0, (0, ()))).1 = t := by rw [← hrt, ← ho]; rfl
        simp only [c7, c6, c5, c11, c12, Bool.and_self, Bool.or_true, if_true, bne_self_eq_false, Bool.false_eq_true, if_false, hfit, c8, c10, c9]
theorem W5_run (x0 : Nat) (hx0 : 70000 ≤ x0) (l : List I2) (hl : l.length ≤ 65536) (steps : List Int) (hsb : steps.length < 4611686018427387904) :
    ∀ (c j f : Nat) (got rest : List I2) (n : Int) (m : MP) (R : RG), j + c = steps.length + 1 → c + 1 ≤ f → got ++ rest = l → Inv n m R → Fired m top rest → (c = 0 → n = top) →
      loopN (d3_L5 x0 (d3_K1 x0)) f ((l, (got, (some (wh n m R), ()))), ((j : Int), (steps, ()))) = some ((true, ()), ())
  | 0, j, f + 1, got, rest, n, m, R, h, hf, hg, hi, hr, hn => by
    show d3_L5 x0 (d3_K1 x0) (loopN (d3_L5 x0 (d3_K1 x0)) f) _ = _
    generalize loopN (d3_L5 x0 (d3_K1 x0)) f = G
    unfold d3_L5
    have c1 : decide ((j : Int) ≤ (steps.length : Int)) = false := decide_eq_false (by omega)
    simp only [lt, c1, Bool.false_eq_true, if_false]
    have hrest : rest = [] := List.eq_nil_iff_forall_not_mem.2 fun x hx => by
      obtain ⟨t, id, u⟩ := x
      have := hi.tk _ _ ((hr.mem t id).1 hx).1
      have := hn rfl
      omega
    subst hrest
    rw [List.append_nil] at hg
    subst hg
    unfold d3_K1
    simp only [d13_eq x0 got (by omega) (by omega), Option.bind_some]
  | c + 1, j, f + 1, got, rest, n, m, R, h, hf, hg, hi, hr, hn => by
    have e4 : IntKind.i64.wrap ((j : Int) + 1) = ((j + 1 : Nat) : Int) := by rw [wrap_in _ (by omega)]; omega
    have hnow := hi.now
    have key : ∀ to : Int, n ≤ to → to ≤ top → (c = 0 → to = top) → d3_K3 x0 (d3_K2 (loopN (d3_L5 x0 (d3_K1 x0)) f)) ((l, (some (wh n m R), (got, ()))), (steps, ((j : Int), (to, ())))) = some ((true, ()), ()) := by
      intro to g1 g2 g3
      obtain ⟨m', R', out, rest', k1, k2, k3, k4⟩ := K3_eq x0 hx0 (d3_K2 (loopN (d3_L5 x0 (d3_K1 x0)) f)) l got rest hl hg n to m R hi hr g1 g2 steps j
      rw [k4]
      unfold d3_K2
      simp only [e4]
      exact W5_run x0 hx0 l hl steps hsb c (j + 1) f _ rest' to m' R' (by omega) (by omega) k3 k1 k2 g3
    show d3_L5 x0 (d3_K1 x0) (loopN (d3_L5 x0 (d3_K1 x0)) f) _ = _
    generalize loopN (d3_L5 x0 (d3_K1 x0)) f = G at key ⊢
    unfold d3_L5
    have c1 : decide ((j : Int) ≤ (steps.length : Int)) = true := decide_eq_true (by omega)
    simp only [lt, shr, c1, if_true]
    by_cases hj : j < steps.length
    · have c2 : decide ((j : Int) < (steps.length : Int)) = true := decide_eq_true (by omega)
      have c3 : decide ((0 : Int) ≤ (j : Int)) = true := decide_eq_true (by omega)
      have ht := top_eq
      simp only [c2, c3, if_true, Bool.and_self, Bool.or_true, Option.isSome_some, Option.getD_some, d10_eq, Option.bind_some]
      generalize steps.getD (j : Int).toNat 0 = s
      by_cases hs : s ≥ 0
      · have c4 : decide (s ≥ 0) = true := decide_eq_true hs
        have c5 : (true == true) = true := rfl
        have e5 : IntKind.i64.wrap (1099511627776 - n) = 1099511627776 - n := wrap_in _ (by omega)
        simp only [c4, c5, if_true, Bool.and_self, e5]
        by_cases hs2 : s ≤ 1099511627776 - n
        · have c6 : decide (s ≤ 1099511627776 - n) = true := decide_eq_true hs2
          have e6 : IntKind.i64.wrap (n + s) = n + s := wrap_in _ (by omega)
          simp only [c6, if_true, Option.isSome_some, Option.getD_some, d10_eq, Option.bind_some, e5, e6, d3_K4]
          exact key (n + s) (by omega) (by omega) (by omega)
        · have c6 : decide (s ≤ 1099511627776 - n) = false := decide_eq_false hs2
          simp only [Option.bind_some, e5, c6, Bool.false_eq_true, if_false, d3_K4]
          exact key n (by omega) (by omega) (by omega)
      · have c4 : decide (s ≥ 0) = false := decide_eq_false hs
        have c0 : (false == true) = false := rfl
        simp only [c4, c0, Bool.false_and, Bool.false_eq_true, if_false, Option.bind_some, d3_K4]
        exact key n (by omega) (by omega) (by omega)
    · have c2 : decide ((j : Int) < (steps.length : Int)) = false := decide_eq_false (by omega)
      simp only [c2, Bool.false_eq_true, if_false]
      exact key top hnow.2 (Int.le_refl _) (fun _ => rfl)
theorem fires_true (now : Int) (arms : List I2) (hb : arms.length < 4611686018427387904) (steps : List Int) (hsb : steps.length < 4611686018427387904) (k : Nat) (hk : arms.length + steps.length + 70000 ≤ k) :
    d3 k (now, (arms, (steps, ()))) = some ((true, ()), ()) := by
  by_cases hnow : 0 ≤ now ∧ now ≤ top
  · obtain ⟨m, R, h1, h2, h3⟩ := d6_eq k now arms hb (by omega) hnow
    obtain ⟨n1, n2⟩ := hnow
    obtain ⟨m', R', l, a1, a2, a3, a4⟩ := d7_eq k (by omega) now top m R h2 n2 (Int.le_refl _)
    have tt : ∀ id t, (id, t) ∈ m → t < top := fun id t h => (h2.tk id t h).2
    have hll := a3.le h2.inv.mlen
    have hm' : m' = [] := List.eq_nil_iff_forall_not_mem.2 fun x hx => by
      have := (a4 x.1 x.2).1 hx
      have := tt _ _ this.1
      omega
    subst hm'
    have p8 := d8_eq k l (by omega) (by omega) a3.sorted now 1099511627775 fun x hx => by
      obtain ⟨t, id, u⟩ := x
      have := h2.tk _ _ ((a3.all tt t id).1 hx)
      rw [top_eq] at this
      show now ≤ t ∧ t ≤ 1099511627775
      omega
    rw [top_eq] at n2
    have p14 := W14_run k (d3_K12 k) l (by omega) (some (wh now m R)) arms hb (by omega) now steps (fun f hf => by
      obtain ⟨t, id, u⟩ := f
      exact (h3 id t).1 ((a3.all tt t id).1 hf)) l.length 0 k (by omega) (by omega)
    have p11 := W11_run k (d3_K6 k) l (by omega) (by omega) (some (wh now m R)) arms hb (by omega) now steps (fun a _ => by
      rw [Bool.eq_iff_iff, List.any_eq_true, Option.isSome_iff_exists]
      constructor
      · rintro ⟨x, hx, hx2⟩
        obtain ⟨t, id, u⟩ := x
        have hx2 : id = a.2.1 := by simpa [isid] using hx2
        subst hx2
        exact ⟨t, (h3 _ t).1 ((a3.all tt t _).1 hx)⟩
      · rintro ⟨t, ht⟩
        exact ⟨(t, (a.2.1, ())), (a3.all tt t _).2 ((h3 _ t).2 ht), by simp [isid]⟩) arms.length 0 k (by omega) (by omega)
    have p5 := W5_run k (by omega) l hll steps hsb (steps.length + 1) 0 k [] l now m R (by omega) (by omega) rfl h2 a3 (by omega)
    unfold d3
    have c1 : decide (now < 0) = false := decide_eq_false (by omega)
    have c2 : decide (now > 1099511627776) = false := decide_eq_false (by omega)
    simp only [h1, Option.bind_some, lt, c1, c2, Bool.false_eq_true, if_false, Option.isNone_some]
    by_cases hlen : (if decide ((arms.length : Int) > 3000) = true then true else decide ((steps.length : Int) > 3000)) = true
    · simp only [hlen, if_true]; rfl
    · rw [Bool.not_eq_true] at hlen
      have c9 : ((false == false) : Bool) = true := rfl
      simp only [hlen, Bool.false_eq_true, if_false, Option.isSome_some, if_true, Option.getD_some]
      rw [top_eq] at a1
      simp only [a1, Option.bind_some, bne_self_eq_false, c9, Bool.and_self, if_true, p8, Bool.not_true, Bool.false_eq_true, if_false, d9_eq, d10_eq, Option.isSome_some, Option.getD_some, shr]
      simp only [List.length_nil, Int.natCast_zero, bne_self_eq_false, Bool.false_eq_true, if_false, c9, Bool.and_self, if_true, Option.isSome_some, Option.getD_some, d9_eq, d10_eq, Option.bind_some, top_eq]
      rw [show (0 : Int) = ((0 : Nat) : Int) from rfl, p14]
      unfold d3_K12
      simp only [shr]
      rw [show (0 : Int) = ((0 : Nat) : Int) from rfl, p11]
      unfold d3_K6
      simp only [shr]
      exact p5
  · have hn : now < 0 ∨ now > top := by omega
    unfold d3
    simp only [d6_none k now arms hn, Option.bind_some, lt, Option.isNone_none]
    rw [top_eq] at hn
    have : (if decide (now < 0) = true then true else decide (now > 1099511627776)) = true := by
      by_cases h1 : now < 0 <;> by_cases h2 : now > 1099511627776 <;> simp_all
    simp only [this, if_true]
    rfl
end Go.Proofs.Ytlagcpfboljhnaa.L
