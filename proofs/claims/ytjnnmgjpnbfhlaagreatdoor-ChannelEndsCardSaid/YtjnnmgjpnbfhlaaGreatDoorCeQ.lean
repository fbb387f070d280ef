import Derived.Test.YtjnnmgjpnbfhlaaGreatDoorCeP
namespace Go.Proofs.YtjnnmgjpnbfhlaaGreatDoor.L
open Go Go.RowKit Go.Lift
set_option linter.unusedVariables false
set_option linter.unusedSimpArgs false

/-! ### what the predicates say -/
theorem dge0 (i : Nat) : decide ((0 : Int) ≤ (i : Int)) = true := decide_eq_true (by omega)
theorem dlt {i n : Nat} (h : i < n) : decide ((i : Int) < (n : Int)) = true := decide_eq_true (by omega)
theorem dnlt {i n : Nat} (h : n ≤ i) : decide ((i : Int) < (n : Int)) = false := decide_eq_false (by omega)
theorem wr1 {i : Nat} (h : i < 4611686018427387904) : IntKind.wrap .i64 ((i : Int) + 1) = ((i + 1 : Nat) : Int) := by
  simp [IntKind.wrap, IntKind.signed, IntKind.bits]; omega
theorem getD_mem {α : Type} {l : List α} {i : Nat} (h : i < l.length) (d : α) : l.getD i d = l[i] := by
  rw [List.getD_eq_getElem?_getD, List.getElem?_eq_getElem h]; rfl
theorem index_loop (v : Int) (xs : List Int) (hl : xs.length < 4611686018427387904) : ∀ (m i k : Nat), i + m = xs.length → m < k →
    ∃ r, loopN (d46_L2 (fun _ => some ((-1, ()), ()))) k ((), ((i : Int), (xs, (v, ((xs.length : Int), ()))))) = some ((r, ()), ()) ∧ decide (r ≥ 0) = (xs.drop i).any (fun t => t == v) := by
  intro m
  induction m with
  | zero =>
    intro i k hi hk
    obtain ⟨k, rfl⟩ : ∃ k', k = k' + 1 := ⟨k - 1, by omega⟩
    rw [List.drop_eq_nil_of_le (by omega)]
    exact ⟨-1, by simp only [loopN, d46_L2, lt, dnlt (show xs.length ≤ i by omega), Bool.false_eq_true, if_false], rfl⟩
  | succ m ih =>
    intro i k hi hk
    obtain ⟨k, rfl⟩ : ∃ k', k = k' + 1 := ⟨k - 1, by omega⟩
    have h1 : i < xs.length := by omega
    obtain ⟨r, hr, hd⟩ := ih (i + 1) k (by omega) (by omega)
    rw [List.drop_eq_getElem_cons h1, List.any_cons]
    simp only [loopN, d46_L2, lt, shr, dlt h1, dge0, Bool.and_self, if_true, Int.toNat_natCast, getD_mem h1, d46_K1, wr1 (show i < 4611686018427387904 by omega), hr]
    by_cases e : v = xs[i]
    · subst e
      exact ⟨(i : Int), by simp, by simp⟩
    · have e1 : (v == xs[i]) = false := by rw [beq_eq_false_iff_ne]; exact e
      have e2 : (xs[i] == v) = false := by rw [beq_eq_false_iff_ne]; exact fun h => e h.symm
      exact ⟨r, by rw [e1]; simp, by rw [hd, e2, Bool.false_or]⟩
theorem d32_eq (k : Nat) (xs : List Int) (v : Int) (hl : xs.length < 4611686018427387904) (hk : xs.length < k) : d32 k (xs, (v, ())) = some ((xs.any (fun t => t == v), ()), ()) := by
  obtain ⟨r, hr, hd⟩ := index_loop v xs hl xs.length 0 k (by omega) hk
  rw [List.drop_zero] at hd
  have e : d46 k (xs, (v, ())) = some ((r, ()), ()) := by
    simp only [d46, shr]
    exact hr
  simp only [d32, lt, e, Option.bind_some, hd]
theorem d20_eq (k : Nat) (x : IM) (t : Int) (hl : x.2.1.length < 4611686018427387904) : d20 k (x, (t, ())) = some ((partN x t, ()), ()) := by
  simp only [d20, lt, partN]
  by_cases h1 : t < 1
  · simp [h1]
  · by_cases h2 : t > (x.2.1.length : Int)
    · simp [h1, h2]
    · have e : IntKind.wrap .i64 (t - 1) = t - 1 := by simp [IntKind.wrap, IntKind.signed, IntKind.bits]; omega
      have a : decide ((0 : Int) ≤ t - 1) = true := decide_eq_true (by omega)
      have b : decide (t - 1 < (x.2.1.length : Int)) = true := decide_eq_true (by omega)
      simp [h1, h2, e, a, b]
theorem index_loop2 (k0 : Nat) (x : IM) (of : Int) (hx : x.2.1.length < 4611686018427387904) (xs : List Int) (hl : xs.length < 4611686018427387904) : ∀ (m i k : Nat), i + m = xs.length → m < k →
    ∃ r, loopN (d36x1_L2 k0 (fun _ => some ((-1, ()), ()))) k ((), ((i : Int), (xs, ((x, (of, ())), ((xs.length : Int), ()))))) = some ((r, ()), ()) ∧ decide (r ≥ 0) = (xs.drop i).any (fun t => partN x t == of) := by
  intro m
  induction m with
  | zero =>
    intro i k hi hk
    obtain ⟨k, rfl⟩ : ∃ k', k = k' + 1 := ⟨k - 1, by omega⟩
    rw [List.drop_eq_nil_of_le (by omega)]
    exact ⟨-1, by simp only [loopN, d36x1_L2, lt, dnlt (show xs.length ≤ i by omega), Bool.false_eq_true, if_false], rfl⟩
  | succ m ih =>
    intro i k hi hk
    obtain ⟨k, rfl⟩ : ∃ k', k = k' + 1 := ⟨k - 1, by omega⟩
    have h1 : i < xs.length := by omega
    obtain ⟨r, hr, hd⟩ := ih (i + 1) k (by omega) (by omega)
    rw [List.drop_eq_getElem_cons h1, List.any_cons]
    simp only [loopN, d36x1_L2, lt, shr, dlt h1, dge0, Bool.and_self, if_true, Int.toNat_natCast, getD_mem h1, d36x1_K1, wr1 (show i < 4611686018427387904 by omega), hr, d23, d20_eq k0 x _ hx, Option.bind_some]
    cases e : (partN x xs[i] == of) with
    | true => exact ⟨(i : Int), by simp, by simp⟩
    | false => exact ⟨r, by simp, by rw [hd, Bool.false_or]⟩
theorem d30_eq (k : Nat) (c : CH) (t : Int) : d30 k (c, (t, ())) = some ((c.2.1 == t, ()), ()) := rfl
theorem d31_eq (k : Nat) (c : CH) (t : Int) (hl : c.2.2.1.length < 4611686018427387904) (hk : c.2.2.1.length < k) : d31 k (c, (t, ())) = some ((c.2.2.1.any (fun u => u == t), ()), ()) := by
  simp only [d31, lt, d32_eq k _ t hl hk, Option.bind_some]
theorem d19_eq (k : Nat) (c : CH) (of : Int) (x : IM) (hx : x.2.1.length < 4611686018427387904) : d19 k (c, (of, (x, ()))) = some ((outB x of c, ()), ()) := by
  simp only [d19, lt, d20_eq k x _ hx, outB]
  cases decide (of > 0) <;> simp
theorem d21_eq (k : Nat) (c : CH) (of : Int) (x : IM) (hx : x.2.1.length < 4611686018427387904) (hl : c.2.2.1.length < 4611686018427387904) (hk : c.2.2.1.length < k) : d21 k (c, (of, (x, ()))) = some ((inlB x of c, ()), ()) := by
  obtain ⟨r, hr, hd⟩ := index_loop2 k x of hx c.2.2.1 hl c.2.2.1.length 0 k (by omega) hk
  rw [List.drop_zero] at hd
  have e : d36x1 k (c.2.2.1, ((x, (of, ())), ())) = some ((r, ()), ()) := by
    simp only [d36x1, shr]
    exact hr
  simp only [d21, d22x1, lt, e, Option.bind_some, hd, inlB]
  cases decide (of > 0) <;> simp

/-! ### calls of the predicates -/
theorem call_pred {g : Nat} {ps : List (Kt × PM)} {den : Nat → HL (ps.map (·.1)) → Option (Sig.Out ⟨ps, [(.bool, .val)]⟩)} (hok : FnOk Tryz.prog GW g ⟨⟨ps, [(.bool, .val)]⟩, den⟩) {W : World} (hG : GW W)
    {d : HL (ps.map (·.1))} {vs : List Value} (ha : ArgsR W (Old W) ps d vs []) {k : Nat} {r : Sig.Out ⟨ps, [(.bool, .val)]⟩} (hden : den k d = some r) :
    Calls Tryz.prog g vs.toArray W fun e w' => e = .returned (.bool r.1.1) ∧ Below W.heap.size W w' := by
  refine (hok k d _ hden W (Old W) vs [] (fun w' hw => hG.below (below_of_fr hw)) ha List.nodup_nil (by simp)).mono fun e w' ⟨us, Fr', Fm, h1, h2, _, _, h5, _⟩ => ?_
  obtain ⟨v, vs', rfl, h6, h7⟩ := h5
  obtain ⟨rfl, _⟩ := h7
  obtain rfl := val_bool h6
  exact ⟨h1, below_of_fr h2⟩
theorem rz_box {W : World} {z : Int} {b : Nat} (h : W.cell? ⟨b, 0, none⟩ = some (.int .i64 z)) : ∃ cs, Shows (.ptr 3 (.int .i64)) (.pointer (some ⟨b, 0, none⟩)) cs ∧ Rz W (Old W) (.ptr 3 (.int .i64)) .sh [] z cs := by
  have hlt := World.block_lt_of_cell? W _ h
  refine ⟨_, rfl, rfl, .inr ⟨by simp, b, 0, [.int .i64 z], rfl, hlt, hlt, ⟨rfl, .inr ⟨by simp, rfl⟩⟩, ?_⟩⟩
  intro j v hj
  cases j with
  | zero => obtain rfl := Option.some.inj hj; exact h
  | succ j => cases hj
theorem rz_boxI {W : World} {x : IM} {b : Nat} {cs : List Value} (hb : b < W.heap.size) (h : CellsAt W b 0 cs) (hz : Rz W (Old W) kIM .sh [] x cs) : ∃ cs, Shows (.ptr 26 kIM) (.pointer (some ⟨b, 0, none⟩)) cs ∧ Rz W (Old W) (.ptr 26 kIM) .sh [] x cs :=
  ⟨_, rfl, rfl, .inr ⟨by simp, b, 0, cs, rfl, hb, hb, hz, h⟩⟩
end Go.Proofs.YtjnnmgjpnbfhlaaGreatDoor.L
