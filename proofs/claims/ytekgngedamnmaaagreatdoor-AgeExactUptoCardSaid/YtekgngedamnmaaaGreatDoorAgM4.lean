import Derived.Test.YtekgngedamnmaaaGreatDoorAgM3
namespace Go.Proofs.YtekgngedamnmaaaGreatDoor.L
open Go Go.Lift
set_option linter.unusedVariables false
set_option linter.unusedSimpArgs false
set_option maxRecDepth 100000

theorem wneg {i : Nat} (h : i < 4611686018427387904) : decide ((i : Int) ≥ 0) = true := decide_eq_true (by omega)
theorem wneg1 : decide ((Neg.neg (1 : Int)) ≥ 0) = false := by decide
theorem getD_mem {α : Type} {l : List α} {i : Nat} (h : i < l.length) (d : α) : l.getD i d = l[i] := by
  rw [List.getD_eq_getElem?_getD, List.getElem?_eq_getElem h]; rfl

/-! ### all of a list: 238 -/
theorem idx238_loop (k0 : Nat) (X : Unit × Unit → Option ((Int × Unit) × Unit)) (fd : (PT × Unit) × Unit) (ok : PC → Bool) (l : List PC) (hl : l.length < 4611686018427387904) (H : ∀ x ∈ l, d227 k0 (x, (fd.1, ())) = some ((!ok x, ()), ())) : ∀ (m i k : Nat), i + m = l.length → m < k →
    ((∀ x ∈ l.drop i, ok x = true) ∧ loopN (d238_L2 k0 X) k ((), ((i : Int), (l, (fd, ((l.length : Int), ()))))) = X ((), ())) ∨ ((¬ ∀ x ∈ l.drop i, ok x = true) ∧ ∃ j : Nat, j < 4611686018427387904 ∧ loopN (d238_L2 k0 X) k ((), ((i : Int), (l, (fd, ((l.length : Int), ()))))) = some (((j : Int), ()), ())) := by
  intro m
  induction m with
  | zero =>
    intro i k hi hk
    obtain ⟨k, rfl⟩ : ∃ k', k = k' + 1 := ⟨k - 1, by omega⟩
    refine .inl ⟨?_, by simp only [loopN, d238_L2, lt, dnlt (show l.length ≤ i by omega), Bool.false_eq_true, if_false]⟩
    rw [List.drop_eq_nil_of_le (by omega)]; intro x hx; cases hx
  | succ m ih =>
    intro i k hi hk
    obtain ⟨k, rfl⟩ : ∃ k', k = k' + 1 := ⟨k - 1, by omega⟩
    have h1 : i < l.length := by omega
    have hH := H l[i] (List.getElem_mem h1)
    rw [List.drop_eq_getElem_cons h1]
    have hstep : loopN (d238_L2 k0 X) (k + 1) ((), ((i : Int), (l, (fd, ((l.length : Int), ()))))) = d238_L2 k0 X (loopN (d238_L2 k0 X) k) ((), ((i : Int), (l, (fd, ((l.length : Int), ()))))) := rfl
    cases hb : ok l[i] with
    | false =>
      rw [hb] at hH
      refine .inr ⟨fun h => by have := h l[i] (List.mem_cons_self ..); rw [hb] at this; exact Bool.noConfusion this, i, by omega, ?_⟩
      rw [hstep]
      simp only [d238_L2, lt, shr, dlt h1, dge0, Bool.and_self, if_true, Int.toNat_natCast, getD_mem h1, hH, Option.bind_some, Bool.not_false]
    | true =>
      rw [hb] at hH
      have he : loopN (d238_L2 k0 X) (k + 1) ((), ((i : Int), (l, (fd, ((l.length : Int), ()))))) = loopN (d238_L2 k0 X) k ((), (((i + 1 : Nat) : Int), (l, (fd, ((l.length : Int), ()))))) := by
        rw [hstep]
        simp only [d238_L2, lt, shr, dlt h1, dge0, Bool.and_self, if_true, Int.toNat_natCast, getD_mem h1, hH, Option.bind_some, Bool.not_true, Bool.false_eq_true, if_false, d238_K1, wr1 (show i < 4611686018427387904 by omega)]
      rw [he]
      rcases ih (i + 1) k (by omega) (by omega) with ⟨g1, g2⟩ | ⟨g1, j, g2⟩
      · exact .inl ⟨fun x hx => by
          rcases List.mem_cons.1 hx with rfl | hx
          · exact hb
          · exact g1 x hx, g2⟩
      · exact .inr ⟨fun h => g1 fun x hx => h x (List.mem_cons_of_mem _ hx), j, g2⟩
theorem all238 (k : Nat) (fd : (PT × Unit) × Unit) (ok : PC → Bool) (l : List PC) (hl : l.length < 4611686018427387904) (hk : l.length < k) (H : ∀ x ∈ l, d227 k (x, (fd.1, ())) = some ((!ok x, ()), ())) : d193 k (l, (fd.1, ())) = some ((l.all ok, ()), ()) := by
  rcases idx238_loop k (fun _ => some (((Neg.neg (1 : Int)), ()), ())) fd ok l hl H l.length 0 k (by omega) hk with ⟨g1, g2⟩ | ⟨g1, j, hj, g2⟩
  · have hb : l.all ok = true := List.all_eq_true.2 g1
    have e : d238 k (l, (fd, ())) = some (((Neg.neg (1 : Int)), ()), ()) := by
      simp only [d238, shr]; exact g2
    have e' : d226 k (l, (fd, ())) = some ((false, ()), ()) := by simp only [d226, e, Option.bind_some, wneg1]
    have e' : d226 k (l, ((fd.1, ()), ())) = some ((false, ()), ()) := e'
    simp only [d193, e', Option.bind_some, hb, Bool.not_false]
  · have hb : l.all ok = false := by
      cases hh : l.all ok with
      | false => rfl
      | true => exact (g1 (List.all_eq_true.1 hh)).elim
    have e : d238 k (l, (fd, ())) = some (((j : Int), ()), ()) := by
      simp only [d238, shr]; exact g2
    have e' : d226 k (l, (fd, ())) = some ((true, ()), ()) := by simp only [d226, e, Option.bind_some, wneg hj]
    have e' : d226 k (l, ((fd.1, ()), ())) = some ((true, ()), ()) := e'
    simp only [d193, e', Option.bind_some, hb, Bool.not_true]

/-! ### all of a list: 239 -/
theorem idx239_loop (k0 : Nat) (X : Unit × Unit → Option ((Int × Unit) × Unit)) (fd : Unit × Unit) (ok : I2 → Bool) (l : List I2) (hl : l.length < 4611686018427387904) (H : ∀ x ∈ l, d229 k0 (x, (fd.1, ())) = some ((!ok x, ()), ())) : ∀ (m i k : Nat), i + m = l.length → m < k →
    ((∀ x ∈ l.drop i, ok x = true) ∧ loopN (d239_L2 k0 X) k ((), ((i : Int), (l, (fd, ((l.length : Int), ()))))) = X ((), ())) ∨ ((¬ ∀ x ∈ l.drop i, ok x = true) ∧ ∃ j : Nat, j < 4611686018427387904 ∧ loopN (d239_L2 k0 X) k ((), ((i : Int), (l, (fd, ((l.length : Int), ()))))) = some (((j : Int), ()), ())) := by
  intro m
  induction m with
  | zero =>
    intro i k hi hk
    obtain ⟨k, rfl⟩ : ∃ k', k = k' + 1 := ⟨k - 1, by omega⟩
    refine .inl ⟨?_, by simp only [loopN, d239_L2, lt, dnlt (show l.length ≤ i by omega), Bool.false_eq_true, if_false]⟩
    rw [List.drop_eq_nil_of_le (by omega)]; intro x hx; cases hx
  | succ m ih =>
    intro i k hi hk
    obtain ⟨k, rfl⟩ : ∃ k', k = k' + 1 := ⟨k - 1, by omega⟩
    have h1 : i < l.length := by omega
    have hH := H l[i] (List.getElem_mem h1)
    rw [List.drop_eq_getElem_cons h1]
    have hstep : loopN (d239_L2 k0 X) (k + 1) ((), ((i : Int), (l, (fd, ((l.length : Int), ()))))) = d239_L2 k0 X (loopN (d239_L2 k0 X) k) ((), ((i : Int), (l, (fd, ((l.length : Int), ()))))) := rfl
    cases hb : ok l[i] with
    | false =>
      rw [hb] at hH
      refine .inr ⟨fun h => by have := h l[i] (List.mem_cons_self ..); rw [hb] at this; exact Bool.noConfusion this, i, by omega, ?_⟩
      rw [hstep]
      simp only [d239_L2, lt, shr, dlt h1, dge0, Bool.and_self, if_true, Int.toNat_natCast, getD_mem h1, hH, Option.bind_some, Bool.not_false]
    | true =>
      rw [hb] at hH
      have he : loopN (d239_L2 k0 X) (k + 1) ((), ((i : Int), (l, (fd, ((l.length : Int), ()))))) = loopN (d239_L2 k0 X) k ((), (((i + 1 : Nat) : Int), (l, (fd, ((l.length : Int), ()))))) := by
        rw [hstep]
        simp only [d239_L2, lt, shr, dlt h1, dge0, Bool.and_self, if_true, Int.toNat_natCast, getD_mem h1, hH, Option.bind_some, Bool.not_true, Bool.false_eq_true, if_false, d239_K1, wr1 (show i < 4611686018427387904 by omega)]
      rw [he]
      rcases ih (i + 1) k (by omega) (by omega) with ⟨g1, g2⟩ | ⟨g1, j, g2⟩
      · exact .inl ⟨fun x hx => by
          rcases List.mem_cons.1 hx with rfl | hx
          · exact hb
          · exact g1 x hx, g2⟩
      · exact .inr ⟨fun h => g1 fun x hx => h x (List.mem_cons_of_mem _ hx), j, g2⟩
theorem all239 (k : Nat) (fd : Unit × Unit) (ok : I2 → Bool) (l : List I2) (hl : l.length < 4611686018427387904) (hk : l.length < k) (H : ∀ x ∈ l, d229 k (x, (fd.1, ())) = some ((!ok x, ()), ())) : d197 k (l, (fd.1, ())) = some ((l.all ok, ()), ()) := by
  rcases idx239_loop k (fun _ => some (((Neg.neg (1 : Int)), ()), ())) fd ok l hl H l.length 0 k (by omega) hk with ⟨g1, g2⟩ | ⟨g1, j, hj, g2⟩
  · have hb : l.all ok = true := List.all_eq_true.2 g1
    have e : d239 k (l, (fd, ())) = some (((Neg.neg (1 : Int)), ()), ()) := by
      simp only [d239, shr]; exact g2
    have e' : d228 k (l, (fd, ())) = some ((false, ()), ()) := by simp only [d228, e, Option.bind_some, wneg1]
    have e' : d228 k (l, ((fd.1, ()), ())) = some ((false, ()), ()) := e'
    simp only [d197, e', Option.bind_some, hb, Bool.not_false]
  · have hb : l.all ok = false := by
      cases hh : l.all ok with
      | false => rfl
      | true => exact (g1 (List.all_eq_true.1 hh)).elim
    have e : d239 k (l, (fd, ())) = some (((j : Int), ()), ()) := by
      simp only [d239, shr]; exact g2
    have e' : d228 k (l, (fd, ())) = some ((true, ()), ()) := by simp only [d228, e, Option.bind_some, wneg hj]
    have e' : d228 k (l, ((fd.1, ()), ())) = some ((true, ()), ()) := e'
    simp only [d197, e', Option.bind_some, hb, Bool.not_true]

/-! ### all of a list: 240 -/
theorem idx240_loop (k0 : Nat) (X : Unit × Unit → Option ((Int × Unit) × Unit)) (fd : Unit × Unit) (ok : I2 → Bool) (l : List I2) (hl : l.length < 4611686018427387904) (H : ∀ x ∈ l, d231 k0 (x, (fd.1, ())) = some ((!ok x, ()), ())) : ∀ (m i k : Nat), i + m = l.length → m < k →
    ((∀ x ∈ l.drop i, ok x = true) ∧ loopN (d240_L2 k0 X) k ((), ((i : Int), (l, (fd, ((l.length : Int), ()))))) = X ((), ())) ∨ ((¬ ∀ x ∈ l.drop i, ok x = true) ∧ ∃ j : Nat, j < 4611686018427387904 ∧ loopN (d240_L2 k0 X) k ((), ((i : Int), (l, (fd, ((l.length : Int), ()))))) = some (((j : Int), ()), ())) := by
  intro m
  induction m with
  | zero =>
    intro i k hi hk
    obtain ⟨k, rfl⟩ : ∃ k', k = k' + 1 := ⟨k - 1, by omega⟩
    refine .inl ⟨?_, by simp only [loopN, d240_L2, lt, dnlt (show l.length ≤ i by omega), Bool.false_eq_true, if_false]⟩
    rw [List.drop_eq_nil_of_le (by omega)]; intro x hx; cases hx
  | succ m ih =>
    intro i k hi hk
    obtain ⟨k, rfl⟩ : ∃ k', k = k' + 1 := ⟨k - 1, by omega⟩
    have h1 : i < l.length := by omega
    have hH := H l[i] (List.getElem_mem h1)
    rw [List.drop_eq_getElem_cons h1]
    have hstep : loopN (d240_L2 k0 X) (k + 1) ((), ((i : Int), (l, (fd, ((l.length : Int), ()))))) = d240_L2 k0 X (loopN (d240_L2 k0 X) k) ((), ((i : Int), (l, (fd, ((l.length : Int), ()))))) := rfl
    cases hb : ok l[i] with
    | false =>
      rw [hb] at hH
      refine .inr ⟨fun h => by have := h l[i] (List.mem_cons_self ..); rw [hb] at this; exact Bool.noConfusion this, i, by omega, ?_⟩
      rw [hstep]
      simp only [d240_L2, lt, shr, dlt h1, dge0, Bool.and_self, if_true, Int.toNat_natCast, getD_mem h1, hH, Option.bind_some, Bool.not_false]
    | true =>
      rw [hb] at hH
      have he : loopN (d240_L2 k0 X) (k + 1) ((), ((i : Int), (l, (fd, ((l.length : Int), ()))))) = loopN (d240_L2 k0 X) k ((), (((i + 1 : Nat) : Int), (l, (fd, ((l.length : Int), ()))))) := by
        rw [hstep]
        simp only [d240_L2, lt, shr, dlt h1, dge0, Bool.and_self, if_true, Int.toNat_natCast, getD_mem h1, hH, Option.bind_some, Bool.not_true, Bool.false_eq_true, if_false, d240_K1, wr1 (show i < 4611686018427387904 by omega)]
      rw [he]
      rcases ih (i + 1) k (by omega) (by omega) with ⟨g1, g2⟩ | ⟨g1, j, g2⟩
      · exact .inl ⟨fun x hx => by
          rcases List.mem_cons.1 hx with rfl | hx
          · exact hb
          · exact g1 x hx, g2⟩
      · exact .inr ⟨fun h => g1 fun x hx => h x (List.mem_cons_of_mem _ hx), j, g2⟩
theorem all240 (k : Nat) (fd : Unit × Unit) (ok : I2 → Bool) (l : List I2) (hl : l.length < 4611686018427387904) (hk : l.length < k) (H : ∀ x ∈ l, d231 k (x, (fd.1, ())) = some ((!ok x, ()), ())) : d200 k (l, (fd.1, ())) = some ((l.all ok, ()), ()) := by
  rcases idx240_loop k (fun _ => some (((Neg.neg (1 : Int)), ()), ())) fd ok l hl H l.length 0 k (by omega) hk with ⟨g1, g2⟩ | ⟨g1, j, hj, g2⟩
  · have hb : l.all ok = true := List.all_eq_true.2 g1
    have e : d240 k (l, (fd, ())) = some (((Neg.neg (1 : Int)), ()), ()) := by
      simp only [d240, shr]; exact g2
    have e' : d230 k (l, (fd, ())) = some ((false, ()), ()) := by simp only [d230, e, Option.bind_some, wneg1]
    have e' : d230 k (l, ((fd.1, ()), ())) = some ((false, ()), ()) := e'
    simp only [d200, e', Option.bind_some, hb, Bool.not_false]
  · have hb : l.all ok = false := by
      cases hh : l.all ok with
      | false => rfl
      | true => exact (g1 (List.all_eq_true.1 hh)).elim
    have e : d240 k (l, (fd, ())) = some (((j : Int), ()), ()) := by
      simp only [d240, shr]; exact g2
    have e' : d230 k (l, (fd, ())) = some ((true, ()), ()) := by simp only [d230, e, Option.bind_some, wneg hj]
    have e' : d230 k (l, ((fd.1, ()), ())) = some ((true, ()), ()) := e'
    simp only [d200, e', Option.bind_some, hb, Bool.not_true]

/-! ### all of a list: 241 -/
theorem idx241_loop (k0 : Nat) (X : Unit × Unit → Option ((Int × Unit) × Unit)) (fd : Unit × Unit) (ok : Int → Bool) (l : List Int) (hl : l.length < 4611686018427387904) (H : ∀ x ∈ l, d233 k0 (x, (fd.1, ())) = some ((!ok x, ()), ())) : ∀ (m i k : Nat), i + m = l.length → m < k →
    ((∀ x ∈ l.drop i, ok x = true) ∧ loopN (d241_L2 k0 X) k ((), ((i : Int), (l, (fd, ((l.length : Int), ()))))) = X ((), ())) ∨ ((¬ ∀ x ∈ l.drop i, ok x = true) ∧ ∃ j : Nat, j < 4611686018427387904 ∧ loopN (d241_L2 k0 X) k ((), ((i : Int), (l, (fd, ((l.length : Int), ()))))) = some (((j : Int), ()), ())) := by
  intro m
  induction m with
  | zero =>
    intro i k hi hk
    obtain ⟨k, rfl⟩ : ∃ k', k = k' + 1 := ⟨k - 1, by omega⟩
    refine .inl ⟨?_, by simp only [loopN, d241_L2, lt, dnlt (show l.length ≤ i by omega), Bool.false_eq_true, if_false]⟩
    rw [List.drop_eq_nil_of_le (by omega)]; intro x hx; cases hx
  | succ m ih =>
    intro i k hi hk
    obtain ⟨k, rfl⟩ : ∃ k', k = k' + 1 := ⟨k - 1, by omega⟩
    have h1 : i < l.length := by omega
    have hH := H l[i] (List.getElem_mem h1)
    rw [List.drop_eq_getElem_cons h1]
    have hstep : loopN (d241_L2 k0 X) (k + 1) ((), ((i : Int), (l, (fd, ((l.length : Int), ()))))) = d241_L2 k0 X (loopN (d241_L2 k0 X) k) ((), ((i : Int), (l, (fd, ((l.length : Int), ()))))) := rfl
    cases hb : ok l[i] with
    | false =>
      rw [hb] at hH
      refine .inr ⟨fun h => by have := h l[i] (List.mem_cons_self ..); rw [hb] at this; exact Bool.noConfusion this, i, by omega, ?_⟩
      rw [hstep]
      simp only [d241_L2, lt, shr, dlt h1, dge0, Bool.and_self, if_true, Int.toNat_natCast, getD_mem h1, hH, Option.bind_some, Bool.not_false]
    | true =>
      rw [hb] at hH
      have he : loopN (d241_L2 k0 X) (k + 1) ((), ((i : Int), (l, (fd, ((l.length : Int), ()))))) = loopN (d241_L2 k0 X) k ((), (((i + 1 : Nat) : Int), (l, (fd, ((l.length : Int), ()))))) := by
        rw [hstep]
        simp only [d241_L2, lt, shr, dlt h1, dge0, Bool.and_self, if_true, Int.toNat_natCast, getD_mem h1, hH, Option.bind_some, Bool.not_true, Bool.false_eq_true, if_false, d241_K1, wr1 (show i < 4611686018427387904 by omega)]
      rw [he]
      rcases ih (i + 1) k (by omega) (by omega) with ⟨g1, g2⟩ | ⟨g1, j, g2⟩
      · exact .inl ⟨fun x hx => by
          rcases List.mem_cons.1 hx with rfl | hx
          · exact hb
          · exact g1 x hx, g2⟩
      · exact .inr ⟨fun h => g1 fun x hx => h x (List.mem_cons_of_mem _ hx), j, g2⟩
theorem all241 (k : Nat) (fd : Unit × Unit) (ok : Int → Bool) (l : List Int) (hl : l.length < 4611686018427387904) (hk : l.length < k) (H : ∀ x ∈ l, d233 k (x, (fd.1, ())) = some ((!ok x, ()), ())) : d203 k (l, (fd.1, ())) = some ((l.all ok, ()), ()) := by
  rcases idx241_loop k (fun _ => some (((Neg.neg (1 : Int)), ()), ())) fd ok l hl H l.length 0 k (by omega) hk with ⟨g1, g2⟩ | ⟨g1, j, hj, g2⟩
  · have hb : l.all ok = true := List.all_eq_true.2 g1
    have e : d241 k (l, (fd, ())) = some (((Neg.neg (1 : Int)), ()), ()) := by
      simp only [d241, shr]; exact g2
    have e' : d232 k (l, (fd, ())) = some ((false, ()), ()) := by simp only [d232, e, Option.bind_some, wneg1]
    have e' : d232 k (l, ((fd.1, ()), ())) = some ((false, ()), ()) := e'
    simp only [d203, e', Option.bind_some, hb, Bool.not_false]
  · have hb : l.all ok = false := by
      cases hh : l.all ok with
      | false => rfl
      | true => exact (g1 (List.all_eq_true.1 hh)).elim
    have e : d241 k (l, (fd, ())) = some (((j : Int), ()), ()) := by
      simp only [d241, shr]; exact g2
    have e' : d232 k (l, (fd, ())) = some ((true, ()), ()) := by simp only [d232, e, Option.bind_some, wneg hj]
    have e' : d232 k (l, ((fd.1, ()), ())) = some ((true, ()), ()) := e'
    simp only [d203, e', Option.bind_some, hb, Bool.not_true]

/-! ### a part's rules -/
def procB (n : Int) (x : PC) : Bool := wi x.1 0 (IntKind.wrap .i64 (n - 1)) && wi x.2.1 0 255 && wi x.2.2.2.2.1 0 2147483647 && wi x.2.2.1 0 1099511627775 && wi x.2.2.2.1 0 1099511627775 && (x.2.2.1 == 0 || decide (x.2.2.2.1 ≤ x.2.2.1))
def semB (s : I2) : Bool := wi s.2.1 1 2147483647 && wi s.1 0 s.2.1
def bufB (b : I2) : Bool := wi b.1 1 16 && wi b.2.1 1 64
def healB (h : List Int) : Bool := (h.getD 0 0 == 0) && h.all fun a => wi a 0 5
abbrev pc0 : PC := ((0 : Int), ((0 : Int), ((0 : Int), ((0 : Int), ((0 : Int), (false, ()))))))
def handB (h : Int) (l : List PC) : Bool := (h == 0) || (wi h 1 (l.length : Int) && ((l.getD (Int.toNat (h - 1)) pc0).2.2.1 == 0 && (l.getD (Int.toNat (h - 1)) pc0).2.2.2.1 == 0 && !(l.getD (Int.toNat (h - 1)) pc0).2.2.2.2.2.1))
theorem d195_eq (k : Nat) (x : PC) (n : Int) : d195 k (x, (n, ())) = some ((procB n x, ()), ()) := by
  simp only [d195, lt, w173, Option.bind_some, procB]
  cases h1 : wi x.1 0 (IntKind.wrap .i64 (n - 1)) <;> cases h2 : wi x.2.1 0 255 <;> cases h3 : wi x.2.2.2.2.1 0 2147483647 <;> cases h4 : wi x.2.2.1 0 1099511627775 <;> cases h5 : wi x.2.2.2.1 0 1099511627775 <;> cases h6 : (x.2.2.1 == 0) <;> simp
theorem d100_eq (k : Nat) (p : PT) (x : PC) : d100 k (p, (x, ())) = some ((procB (p.2.2.2.2.1.length : Int) x, ()), ()) := by
  simp only [d100, lt, w97, Option.bind_some, procB]
  cases h1 : wi x.1 0 (IntKind.wrap .i64 ((p.2.2.2.2.1.length : Int) - 1)) <;> cases h2 : wi x.2.1 0 255 <;> cases h3 : wi x.2.2.2.2.1 0 2147483647 <;> cases h4 : wi x.2.2.1 0 1099511627775 <;> cases h5 : wi x.2.2.2.1 0 1099511627775 <;> cases h6 : (x.2.2.1 == 0) <;> simp
theorem d198_eq (k : Nat) (s : I2) : d198 k (s, ()) = some ((semB s, ()), ()) := by
  simp only [d198, lt, w173, Option.bind_some, semB]
  cases h1 : wi s.2.1 1 2147483647 <;> simp
theorem d201_eq (k : Nat) (s : I2) : d201 k (s, ()) = some ((bufB s, ()), ()) := by
  simp only [d201, lt, w173, Option.bind_some, bufB]
  cases h1 : wi s.1 1 16 <;> simp
theorem d192_eq (k : Nat) (p : PT) (hl : p.2.2.2.2.2.1.length < 4611686018427387904) (hk : p.2.2.2.2.2.1.length < k) : d192 k (p, ()) = some ((p.2.2.2.2.2.1.all (procB (p.2.2.2.2.1.length : Int)), ()), ()) := by
  have := all238 k ((p, ()), ()) (procB (p.2.2.2.2.1.length : Int)) p.2.2.2.2.2.1 hl hk fun x hx => by
    simp only [d227, d194, d195_eq, Option.bind_some]
  simp only [d192, this, Option.bind_some]
theorem d196_eq (k : Nat) (p : PT) (hl : p.2.2.2.2.2.2.2.2.1.length < 4611686018427387904) (hk : p.2.2.2.2.2.2.2.2.1.length < k) : d196 k (p, ()) = some ((p.2.2.2.2.2.2.2.2.1.all semB, ()), ()) := by
  have := all239 k ((), ()) semB p.2.2.2.2.2.2.2.2.1 hl hk fun x hx => by
    simp only [d229, d198_eq, Option.bind_some]
  simp only [d196, this, Option.bind_some]
theorem d199_eq (k : Nat) (p : PT) (hl : p.2.2.2.2.2.2.2.2.2.2.1.length < 4611686018427387904) (hk : p.2.2.2.2.2.2.2.2.2.2.1.length < k) : d199 k (p, ()) = some ((p.2.2.2.2.2.2.2.2.2.2.1.all bufB, ()), ()) := by
  have := all240 k ((), ()) bufB p.2.2.2.2.2.2.2.2.2.2.1 hl hk fun x hx => by
    simp only [d231, d201_eq, Option.bind_some]
  simp only [d199, this, Option.bind_some]
theorem d202_eq (k : Nat) (p : PT) (hl : p.2.2.2.2.2.2.2.1.length = 8) (hk : 8 < k) : d202 k (p, ()) = some ((healB p.2.2.2.2.2.2.2.1, ()), ()) := by
  have := all241 k ((), ()) (fun a => wi a 0 5) p.2.2.2.2.2.2.2.1 (by omega) (by omega) fun x hx => by
    simp only [d233, d204, w173, Option.bind_some]
  have c : (decide ((0 : Int) ≤ 0) && decide ((0 : Int) < ((8 : Nat) : Int))) = true := rfl
  simp only [d202, c, lt, this, if_true, healB]
  have e : Int.toNat 0 = 0 := rfl
  rw [e]
  cases h : (p.2.2.2.2.2.2.2.1.getD 0 0 == 0) <;> simp
theorem handN {h : Int} {l : List PC} (hl : l.length < 4611686018427387904) (hw : wi h 1 (l.length : Int) = true) : IntKind.wrap .i64 (h - 1) = h - 1 ∧ (decide ((0 : Int) ≤ h - 1) && decide (h - 1 < (l.length : Int))) = true := by
  obtain ⟨a, b⟩ := wi_iff.1 hw
  refine ⟨wrap_id (by omega) (by omega), ?_⟩
  simp only [Bool.and_eq_true, decide_eq_true_eq]; omega
theorem d205_eq (k : Nat) (p : PT) (hl : p.2.2.2.2.2.1.length < 4611686018427387904) : d205 k (p, ()) = some ((handB p.2.2.2.2.2.2.1 p.2.2.2.2.2.1, ()), ()) := by
  simp only [d205, lt, w173, Option.bind_some, handB]
  cases h0 : (p.2.2.2.2.2.2.1 == 0) with
  | true => simp
  | false =>
    cases hw : wi p.2.2.2.2.2.2.1 1 (p.2.2.2.2.2.1.length : Int) with
    | false => simp
    | true =>
      obtain ⟨e1, e2⟩ := handN hl hw
      simp only [e1, e2, if_true, Bool.not_true, Bool.false_eq_true, if_false, Bool.false_or, Bool.true_and]
      cases (p.2.2.2.2.2.1.getD (p.2.2.2.2.2.2.1 - 1).toNat pc0).2.2.1 == 0 <;> cases (p.2.2.2.2.2.1.getD (p.2.2.2.2.2.2.1 - 1).toNat pc0).2.2.2.1 == 0 <;> simp
end Go.Proofs.YtekgngedamnmaaaGreatDoor.L
