import Derived.Test.YtekgngedamnmaaaGreatDoorAgM4
namespace Go.Proofs.YtekgngedamnmaaaGreatDoor.L
open Go Go.Lift
set_option linter.unusedVariables false
set_option linter.unusedSimpArgs false
set_option maxRecDepth 100000

/-! ### a part's numbers -/
def cntB (p : PT) : Bool := (wi p.2.1 0 4096 && decide ((p.2.2.2.2.1.length : Int) ≤ 1024)) && wi (p.2.2.2.2.2.1.length : Int) 1 16 && (decide ((p.2.2.2.2.2.2.2.2.1.length : Int) ≤ 8) && decide ((p.2.2.2.2.2.2.2.2.2.1.length : Int) ≤ 8) && decide ((p.2.2.2.2.2.2.2.2.2.2.1.length : Int) ≤ 8))
theorem d187_eq (k : Nat) (p : PT) : d187 k (p, ()) = some ((wi p.2.1 0 4096 && decide ((p.2.2.2.2.1.length : Int) ≤ 1024), ()), ()) := by
  simp only [d187, w173, lt, Option.bind_some]
  cases wi p.2.1 0 4096 <;> simp
theorem d188_eq (k : Nat) (p : PT) : d188 k (p, ()) = some ((wi (p.2.2.2.2.2.1.length : Int) 1 16, ()), ()) := by
  simp only [d188, w173, lt, Option.bind_some]
theorem max3 (a b c : Nat) : decide ((if ((c : Int) > (if (b : Int) > (a : Int) then (b : Int) else (a : Int))) then (c : Int) else (if (b : Int) > (a : Int) then (b : Int) else (a : Int))) ≤ 8) = (decide ((a : Int) ≤ 8) && decide ((b : Int) ≤ 8) && decide ((c : Int) ≤ 8)) := by
  rw [Bool.eq_iff_iff]
  simp only [Bool.and_eq_true, decide_eq_true_eq]
  split <;> split <;> omega
theorem d189_eq (k : Nat) (p : PT) : d189 k (p, ()) = some ((decide ((p.2.2.2.2.2.2.2.2.1.length : Int) ≤ 8) && decide ((p.2.2.2.2.2.2.2.2.2.1.length : Int) ≤ 8) && decide ((p.2.2.2.2.2.2.2.2.2.2.1.length : Int) ≤ 8), ()), ()) := by
  simp only [d189, lt, max3]
theorem d45_eq (k : Nat) (p : PT) : d45 k (p, ()) = some ((cntB p, ()), ()) := by
  simp only [d45, w97, lt, Option.bind_some, cntB]
  cases decide ((p.2.2.2.2.2.2.2.2.1.length : Int) ≤ 8) <;> cases decide ((p.2.2.2.2.2.2.2.2.2.1.length : Int) ≤ 8) <;> cases decide ((p.2.2.2.2.2.2.2.2.2.2.1.length : Int) ≤ 8) <;> cases wi p.2.1 0 4096 <;> cases decide ((p.2.2.2.2.1.length : Int) ≤ 1024) <;> simp

/-! ### rows held against a part -/
def disp (k : Nat) (p : PT) (f : Nat) : Option ((Bool × Unit) × Unit) :=
  if (187 : Nat) = f then d187 k (p, ()) else if (188 : Nat) = f then d188 k (p, ()) else if (189 : Nat) = f then d189 k (p, ()) else if (190 : Nat) = f then d190 k (p, ()) else if (191 : Nat) = f then d191 k (p, ()) else if (192 : Nat) = f then d192 k (p, ()) else if (196 : Nat) = f then d196 k (p, ()) else if (199 : Nat) = f then d199 k (p, ()) else if (202 : Nat) = f then d202 k (p, ()) else if (205 : Nat) = f then d205 k (p, ()) else none
abbrev ROW : Type := Int × ((Option Nat) × Unit)
theorem hold_loop (k0 : Nat) (K : Unit × Unit → Option ((Option I2 × Unit) × Unit)) (p : PT) (place : Int) (met : ROW → Bool) (rs : List ROW) (hl : rs.length ≤ 100) (H : ∀ r ∈ rs, Option.bind r.2.1 (disp k0 p) = some ((met r, ()), ())) : ∀ (m i k : Nat), i + m = rs.length → m < k →
    ((∀ r ∈ rs.drop i, met r = true) ∧ loopN (d153_L3 k0 K) k ((p, ()), (place, ((i : Int), (rs, ((rs.length : Int), ()))))) = K ((), ())) ∨ ((¬ ∀ r ∈ rs.drop i, met r = true) ∧ ∃ r, (rs.drop i).find? (fun r => !met r) = some r ∧ loopN (d153_L3 k0 K) k ((p, ()), (place, ((i : Int), (rs, ((rs.length : Int), ()))))) = some ((some (r.1, (place, ())), ()), ())) := by
  intro m
  induction m with
  | zero =>
    intro i k hi hk
    obtain ⟨k, rfl⟩ : ∃ k', k = k' + 1 := ⟨k - 1, by omega⟩
    refine .inl ⟨?_, by simp only [loopN, d153_L3, lt, dnlt (show rs.length ≤ i by omega), Bool.false_eq_true, if_false]⟩
    rw [List.drop_eq_nil_of_le (by omega)]; intro x hx; cases hx
  | succ m ih =>
    intro i k hi hk
    obtain ⟨k, rfl⟩ : ∃ k', k = k' + 1 := ⟨k - 1, by omega⟩
    have h1 : i < rs.length := by omega
    have hH := H rs[i] (List.getElem_mem h1)
    rw [List.drop_eq_getElem_cons h1]
    have hstep : loopN (d153_L3 k0 K) (k + 1) ((p, ()), (place, ((i : Int), (rs, ((rs.length : Int), ()))))) = Option.bind (Option.bind rs[i].2.1 (disp k0 p)) fun x8 => if (Bool.not x8.1.1) = true then some ((some (rs[i].1, (place, ())), ()), ()) else loopN (d153_L3 k0 K) k ((p, ()), (place, (IntKind.wrap .i64 ((i : Int) + 1), (rs, ((rs.length : Int), ()))))) := by
      simp only [loopN, d153_L3, lt, shr, dlt h1, dge0, Bool.and_self, if_true, Int.toNat_natCast, getD_mem h1, d153_K2]
      rfl
    rw [hstep, hH, Option.bind_some, wr1 (show i < 4611686018427387904 by omega)]
    cases hb : met rs[i] with
    | false =>
      refine .inr ⟨fun h => by have := h rs[i] (List.mem_cons_self ..); rw [hb] at this; exact Bool.noConfusion this, rs[i], by rw [List.find?_cons, hb]; rfl, ?_⟩
      simp only [Bool.not_false, if_true]
    | true =>
      simp only [Bool.not_true, Bool.false_eq_true, if_false]
      rcases ih (i + 1) k (by omega) (by omega) with ⟨g1, g2⟩ | ⟨g1, r, hr, g2⟩
      · exact .inl ⟨fun x hx => by
          rcases List.mem_cons.1 hx with rfl | hx
          · exact hb
          · exact g1 x hx, g2⟩
      · exact .inr ⟨fun h => g1 fun x hx => h x (List.mem_cons_of_mem _ hx), r, by rw [List.find?_cons, hb]; exact hr, g2⟩
theorem hold_eq (k : Nat) (hk : 101 < k) (p : PT) (place : Int) (met : ROW → Bool) (rs : List ROW) (hl : rs.length ≤ 100) (H : ∀ r ∈ rs, Option.bind r.2.1 (disp k p) = some ((met r, ()), ())) :
    ((∀ r ∈ rs, met r = true) ∧ d153 k (rs, (p, (place, ()))) = some ((none, ()), ())) ∨ ((¬ ∀ r ∈ rs, met r = true) ∧ ∃ y : I2, (rs.find? (fun r => !met r)).map (·.1) = some y.1 ∧ d153 k (rs, (p, (place, ()))) = some ((some y, ()), ())) := by
  rcases hold_loop k d153_K1 p place met rs hl H rs.length 0 k (by omega) (by omega) with ⟨g1, g2⟩ | ⟨g1, r, hr, g2⟩
  · exact .inl ⟨g1, by simp only [d153, shr]; exact g2⟩
  · exact .inr ⟨g1, (r.1, (place, ())), (by rw [List.drop_zero] at hr; rw [hr]; rfl), by simp only [d153, shr]; exact g2⟩
def rows3 : List ROW := [(100, (some 187, ())), (100, (some 188, ())), (100, (some 189, ()))]
def rows7 : List ROW := [(110, (some 190, ())), (104, (some 191, ())), (105, (some 192, ())), (106, (some 196, ())), (106, (some 199, ())), (109, (some 202, ())), (109, (some 205, ()))]
theorem d154_eq (k : Nat) : d154 k () = some ((rows3, ()), ()) := rfl
theorem d155_eq (k : Nat) : d155 k () = some ((rows7, ()), ()) := rfl
theorem hold3 (k : Nat) (hk : 101 < k) (p : PT) (place : Int) : (cntB p = true ∧ d153 k (rows3, (p, (place, ()))) = some ((none, ()), ())) ∨ (cntB p = false ∧ ∃ y : I2, y.1 = 100 ∧ d153 k (rows3, (p, (place, ()))) = some ((some y, ()), ())) := by
  have key := hold_eq k hk p place (fun r => if r.2.1 = some 187 then (wi p.2.1 0 4096 && decide ((p.2.2.2.2.1.length : Int) ≤ 1024)) else if r.2.1 = some 188 then wi (p.2.2.2.2.2.1.length : Int) 1 16 else (decide ((p.2.2.2.2.2.2.2.2.1.length : Int) ≤ 8) && decide ((p.2.2.2.2.2.2.2.2.2.1.length : Int) ≤ 8) && decide ((p.2.2.2.2.2.2.2.2.2.2.1.length : Int) ≤ 8))) rows3 (by decide) (by
    intro r hr
    simp only [rows3, List.mem_cons, List.mem_nil_iff, or_false] at hr
    rcases hr with rfl | rfl | rfl
    · show disp k p 187 = _
      rw [show disp k p 187 = d187 k (p, ()) from rfl, d187_eq]; rfl
    · show disp k p 188 = _
      rw [show disp k p 188 = d188 k (p, ()) from rfl, d188_eq]; rfl
    · show disp k p 189 = _
      rw [show disp k p 189 = d189 k (p, ()) from rfl, d189_eq]; rfl)
  have hiff : (∀ r ∈ rows3, (if r.2.1 = some 187 then (wi p.2.1 0 4096 && decide ((p.2.2.2.2.1.length : Int) ≤ 1024)) else if r.2.1 = some 188 then wi (p.2.2.2.2.2.1.length : Int) 1 16 else (decide ((p.2.2.2.2.2.2.2.2.1.length : Int) ≤ 8) && decide ((p.2.2.2.2.2.2.2.2.2.1.length : Int) ≤ 8) && decide ((p.2.2.2.2.2.2.2.2.2.2.1.length : Int) ≤ 8))) = true) ↔ cntB p = true := by
    simp only [rows3, List.forall_mem_cons, List.not_mem_nil, false_imp_iff, implies_true, and_true, cntB, Bool.and_eq_true, if_true, Option.some.injEq]
    simp
    grind
  rcases key with ⟨g1, g2⟩ | ⟨g1, y, hy, g2⟩
  · exact .inl ⟨hiff.1 g1, g2⟩
  · refine .inr ⟨?_, y, ?_, g2⟩
    rotate_left
    · obtain ⟨r, hr, hr2⟩ := Option.map_eq_some_iff.1 hy
      have := List.mem_of_find?_eq_some hr
      simp only [rows3, List.mem_cons, List.mem_nil_iff, or_false] at this
      rcases this with rfl | rfl | rfl <;> exact hr2.symm
    cases h : cntB p with
    | false => rfl
    | true => exact (g1 (hiff.2 h)).elim

/-! ### a part's rules -/
def sizesOk (p : PT) : Prop := cntB p = true ∧ p.2.2.2.2.2.2.2.1.length = 8
theorem sizes {p : PT} (h : sizesOk p) : p.2.2.2.2.1.length ≤ 1024 ∧ p.2.2.2.2.2.1.length ≤ 16 ∧ p.2.2.2.2.2.2.2.2.1.length ≤ 8 ∧ p.2.2.2.2.2.2.2.2.2.1.length ≤ 8 ∧ p.2.2.2.2.2.2.2.2.2.2.1.length ≤ 8 ∧ p.2.2.2.2.2.2.2.1.length = 8 := by
  obtain ⟨h, h8⟩ := h
  simp only [cntB, Bool.and_eq_true, decide_eq_true_eq] at h
  have := wi_iff.1 h.1.2
  omega
def memB (p : PT) : Bool := wi p.2.2.1 0 p.2.1 && decide ((p.2.2.2.1.length : Int) ≤ p.2.1)
def codeB (p : PT) : Bool := decide ((p.2.2.2.2.1.length : Int) > 0)
def partB (p : PT) : Bool := memB p && codeB p && p.2.2.2.2.2.1.all (procB (p.2.2.2.2.1.length : Int)) && (p.2.2.2.2.2.2.2.2.1.all semB && p.2.2.2.2.2.2.2.2.2.2.1.all bufB) && (healB p.2.2.2.2.2.2.2.1 && handB p.2.2.2.2.2.2.1 p.2.2.2.2.2.1)
theorem d190_eq (k : Nat) (p : PT) : d190 k (p, ()) = some ((memB p, ()), ()) := by
  simp only [d190, w173, lt, Option.bind_some, memB]
  cases wi p.2.2.1 0 p.2.1 <;> simp
theorem d191_eq (k : Nat) (p : PT) : d191 k (p, ()) = some ((codeB p, ()), ()) := by
  simp only [d191, lt, codeB]
def met7 (p : PT) (r : ROW) : Bool :=
  if r.2.1 = some 190 then memB p else if r.2.1 = some 191 then codeB p else if r.2.1 = some 192 then p.2.2.2.2.2.1.all (procB (p.2.2.2.2.1.length : Int)) else if r.2.1 = some 196 then p.2.2.2.2.2.2.2.2.1.all semB else if r.2.1 = some 199 then p.2.2.2.2.2.2.2.2.2.2.1.all bufB else if r.2.1 = some 202 then healB p.2.2.2.2.2.2.2.1 else handB p.2.2.2.2.2.2.1 p.2.2.2.2.2.1
/-- Which error a part leads to. -/
def pE : Bool → Bool → Bool → Bool → Int
  | false, _, _, _ => 110
  | true, false, _, _ => 104
  | true, true, false, _ => 105
  | true, true, true, false => 106
  | true, true, true, true => 109
def partE (p : PT) : Int := pE (memB p) (codeB p) (p.2.2.2.2.2.1.all (procB (p.2.2.2.2.1.length : Int))) (p.2.2.2.2.2.2.2.2.1.all semB && p.2.2.2.2.2.2.2.2.2.2.1.all bufB)
theorem partE_ne (p : PT) : partE p ≠ 0 := by
  unfold partE
  cases memB p <;> cases codeB p <;> cases (p.2.2.2.2.2.1.all (procB (p.2.2.2.2.1.length : Int))) <;> cases (p.2.2.2.2.2.2.2.2.1.all semB && p.2.2.2.2.2.2.2.2.2.2.1.all bufB) <;> decide
theorem hold7 (k : Nat) (hk : 101 < k) (p : PT) (hs : sizesOk p) (place : Int) : (partB p = true ∧ d153 k (rows7, (p, (place, ()))) = some ((none, ()), ())) ∨ (partB p = false ∧ ∃ y : I2, y.1 = partE p ∧ d153 k (rows7, (p, (place, ()))) = some ((some y, ()), ())) := by
  obtain ⟨z1, z2, z3, z4, z5, z6⟩ := sizes hs
  have key := hold_eq k hk p place (met7 p) rows7 (by decide) (by
    intro r hr
    simp only [rows7, List.mem_cons, List.mem_nil_iff, or_false] at hr
    rcases hr with rfl | rfl | rfl | rfl | rfl | rfl | rfl
    · show disp k p 190 = _
      rw [show disp k p 190 = d190 k (p, ()) from rfl, d190_eq]; rfl
    · show disp k p 191 = _
      rw [show disp k p 191 = d191 k (p, ()) from rfl, d191_eq]; rfl
    · show disp k p 192 = _
      rw [show disp k p 192 = d192 k (p, ()) from rfl, d192_eq k p (by omega) (by omega)]; rfl
    · show disp k p 196 = _
      rw [show disp k p 196 = d196 k (p, ()) from rfl, d196_eq k p (by omega) (by omega)]; rfl
    · show disp k p 199 = _
      rw [show disp k p 199 = d199 k (p, ()) from rfl, d199_eq k p (by omega) (by omega)]; rfl
    · show disp k p 202 = _
      rw [show disp k p 202 = d202 k (p, ()) from rfl, d202_eq k p z6 (by omega)]; rfl
    · show disp k p 205 = _
      rw [show disp k p 205 = d205 k (p, ()) from rfl, d205_eq k p (by omega)]; rfl)
  have hiff : (∀ r ∈ rows7, met7 p r = true) ↔ partB p = true := by
    have e : ∀ (c : Int) (f : Nat) (b : Bool), met7 p (c, (some f, ())) = b → True := fun _ _ _ _ => trivial
    simp only [rows7, List.forall_mem_cons, List.not_mem_nil, false_imp_iff, implies_true, and_true, partB, Bool.and_eq_true]
    have m1 : met7 p (110, (some 190, ())) = memB p := rfl
    have m2 : met7 p (104, (some 191, ())) = codeB p := rfl
    have m3 : met7 p (105, (some 192, ())) = p.2.2.2.2.2.1.all (procB (p.2.2.2.2.1.length : Int)) := rfl
    have m4 : met7 p (106, (some 196, ())) = p.2.2.2.2.2.2.2.2.1.all semB := rfl
    have m5 : met7 p (106, (some 199, ())) = p.2.2.2.2.2.2.2.2.2.2.1.all bufB := rfl
    have m6 : met7 p (109, (some 202, ())) = healB p.2.2.2.2.2.2.2.1 := rfl
    have m7 : met7 p (109, (some 205, ())) = handB p.2.2.2.2.2.2.1 p.2.2.2.2.2.1 := rfl
    rw [m1, m2, m3, m4, m5, m6, m7]
    grind
  rcases key with ⟨g1, g2⟩ | ⟨g1, y, hy, g2⟩
  · exact .inl ⟨hiff.1 g1, g2⟩
  · refine .inr ⟨?_, y, ?_, g2⟩
    rotate_left
    · have m1 : met7 p (110, (some 190, ())) = memB p := rfl
      have m2 : met7 p (104, (some 191, ())) = codeB p := rfl
      have m3 : met7 p (105, (some 192, ())) = p.2.2.2.2.2.1.all (procB (p.2.2.2.2.1.length : Int)) := rfl
      have m4 : met7 p (106, (some 196, ())) = p.2.2.2.2.2.2.2.2.1.all semB := rfl
      have m5 : met7 p (106, (some 199, ())) = p.2.2.2.2.2.2.2.2.2.2.1.all bufB := rfl
      have m6 : met7 p (109, (some 202, ())) = healB p.2.2.2.2.2.2.2.1 := rfl
      have m7 : met7 p (109, (some 205, ())) = handB p.2.2.2.2.2.2.1 p.2.2.2.2.2.1 := rfl
      rw [rows7, List.find?_cons, List.find?_cons, List.find?_cons, List.find?_cons, List.find?_cons, List.find?_cons, List.find?_cons, m1, m2, m3, m4, m5, m6, m7] at hy
      unfold partE
      clear m1 m2 m3 m4 m5 m6 m7 hiff
      revert hy
      cases memB p <;> cases codeB p <;> cases p.2.2.2.2.2.1.all (procB (p.2.2.2.2.1.length : Int)) <;> cases p.2.2.2.2.2.2.2.2.1.all semB <;> cases p.2.2.2.2.2.2.2.2.2.2.1.all bufB <;> cases healB p.2.2.2.2.2.2.2.1 <;> cases handB p.2.2.2.2.2.2.1 p.2.2.2.2.2.1 <;> intro hy <;>
        first | exact (Option.some.inj hy).symm | cases hy
    cases h : partB p with
    | false => rfl
    | true => exact (g1 (hiff.2 h)).elim
end Go.Proofs.YtekgngedamnmaaaGreatDoor.L
