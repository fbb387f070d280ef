import Derived.Test.YtekgngedamnmaaaGreatDoorAgM6
namespace Go.Proofs.YtekgngedamnmaaaGreatDoor.L
open Go Go.Lift
set_option linter.unusedVariables false
set_option linter.unusedSimpArgs false
set_option maxRecDepth 100000

/-! ### channels: the rule -/
abbrev po0 : PO := ((0 : Int), ((0 : Int), (false, ((0 : Int), ((0 : Int), ((0 : Int), ()))))))
abbrev ch0 : CH := ((0 : Int), ((0 : Int), (([] : List Int), ((0 : Int), ((0 : Int), ())))))
def port (ps : List PO) (t : Int) : PO := ps.getD (t - 1).toNat po0
/-- One receiving port. -/
def toOk (ps : List PO) (kd : Int) (used : Int → Bool) (prev size t : Int) : Bool :=
  wi t 1 (ps.length : Int) && decide (prev < t) && (!(port ps t).2.2.1 && ((port ps t).2.1 == kd) && (size == 0 || (port ps t).2.2.2.1 == size)) && !used t
def toB (ps : List PO) (kd : Int) (used : Int → Bool) : Int → Int → List Int → Bool
  | _, _, [] => true
  | prev, size, t :: ts => toOk ps kd used prev size t && toB ps kd used t (port ps t).2.2.2.1 ts
def fromB (ps : List PO) (bef : List CH) (c : CH) : Bool :=
  if c.2.1 == 0 then !(((c.2.2.1.length : Nat) : Int) == 0) else wi c.2.1 1 (ps.length : Int) && ((port ps c.2.1).2.2.1 && ((port ps c.2.1).2.1 == c.1)) && !(bef.any fun d => d.2.1 == c.2.1)
def rateB (c : CH) : Bool := if (c.1 == 1 && c.2.1 != 0) then wi c.2.2.2.2.1 1 1048576 && wi c.2.2.2.1 0 (c.2.2.2.2.1 - 1) else (c.2.2.2.2.1 == 0) && (c.2.2.2.1 == 0)
def startSize (ps : List PO) (c : CH) : Int := if c.2.1 == 0 then 0 else (port ps c.2.1).2.2.2.1
def usedTo (bef : List CH) (t : Int) : Bool := bef.any fun d => d.2.2.1.any (fun u => u == t)
def chanB (ps : List PO) (bef : List CH) (c : CH) : Bool :=
  wi c.1 0 1 && fromB ps bef c && toB ps c.1 (usedTo bef) 0 (startSize ps c) c.2.2.1 && rateB c
def chansB (ps : List PO) : List CH → List CH → Bool
  | _, [] => true
  | bef, c :: cs => chanB ps bef c && chansB ps (bef ++ [c]) cs

theorem wrm {t n : Int} (h : wi t 1 n = true) (hn : n < 4611686018427387904) : IntKind.wrap .i64 (t - 1) = t - 1 := by
  rw [wi_iff] at h; exact wrap_id (by omega) (by omega)
theorem inr {t : Int} {n : Nat} (h : wi t 1 (n : Int) = true) : (decide ((0 : Int) ≤ t - 1) && decide (t - 1 < (n : Int))) = true := by
  rw [wi_iff] at h; simp; omega

/-! ### check's join -/
abbrev JS : Type := List PO × (List Bool × (Int × Unit))
def joinB (s : JS) (t kd : Int) (out : Bool) : Bool :=
  wi t 1 (s.1.length : Int) && !(s.2.1.getD t.toNat false) && (((port s.1 t).2.2.1 == out) && ((port s.1 t).2.1 == kd) && (s.2.2.1 == 0 || (port s.1 t).2.2.2.1 == s.2.2.1))
theorem d206_eq (k : Nat) (s : JS) (t kd : Int) (out : Bool) (h1 : s.1.length ≤ 64) (h2 : s.2.1.length = 65) :
    (joinB s t kd out = true ∧ d206 k (s, (t, (kd, (out, ())))) = some ((true, ()), ((s.1, (s.2.1.set t.toNat true, ((port s.1 t).2.2.2.1, ()))), ()))) ∨
    (joinB s t kd out = false ∧ ∃ y, d206 k (s, (t, (kd, (out, ())))) = some ((false, ()), (y, ()))) := by
  simp only [d206, lt, w173, Option.bind_some, joinB]
  cases hw : wi t 1 (s.1.length : Int) with
  | false => exact .inr ⟨by simp, s, by simp⟩
  | true =>
    have hw' := hw
    rw [wi_iff] at hw'
    have e1 : (decide (0 ≤ t) && decide (t < ((65 : Nat) : Int))) = true := by simp; omega
    have e2 : (decide (t.toNat < s.2.1.length) && true) = true := by simp; omega
    simp only [e1, e2, Bool.or_true, if_true, Bool.not_true, Bool.false_eq_true, if_false, Bool.true_and, wrm hw (by omega), inr hw]
    cases hf : s.2.1.getD t.toNat false with
    | true => exact .inr ⟨by simp, s, by simp⟩
    | false =>
      simp only [Bool.not_false, Bool.false_eq_true, if_false, Bool.true_and]
      have ep : s.1.getD (t - 1).toNat (0, (0, (false, (0, (0, (0, ())))))) = port s.1 t := rfl
      simp only [ep]
      cases h1 : ((port s.1 t).2.2.1 == out) with
      | false => exact .inr ⟨by simp, s, by simp⟩
      | true =>
        have n2 : ((port s.1 t).2.1 != kd) = !((port s.1 t).2.1 == kd) := rfl
        have n3 : (s.2.2.1 != 0) = !(s.2.2.1 == 0) := rfl
        have n4 : ((port s.1 t).2.2.2.1 != s.2.2.1) = !((port s.1 t).2.2.2.1 == s.2.2.1) := rfl
        rw [n2, n3, n4]
        cases h2 : ((port s.1 t).2.1 == kd) with
        | false => exact .inr ⟨by simp, s, by simp⟩
        | true =>
          cases h3 : (s.2.2.1 == 0) with
          | true => exact .inl ⟨by simp, by simp⟩
          | false =>
            cases h4 : ((port s.1 t).2.2.2.1 == s.2.2.1) with
            | false => exact .inr ⟨by simp, s, by simp⟩
            | true => exact .inl ⟨by simp, by simp⟩

def marks (F : List Bool) (ts : List Int) : List Bool := ts.foldl (fun F t => F.set t.toNat true) F
theorem marks_len (ts : List Int) : ∀ F, (marks F ts).length = F.length := by
  induction ts with
  | nil => intro F; rfl
  | cons t ts ih => intro F; exact (ih _).trans (List.length_set ..)

theorem to_loop (k0 : Nat) (c : CH) (K : ((JS × (CH × Unit)) × Unit) → Option ((Bool × Unit) × (JS × Unit))) (ps : List PO) (hp : ps.length ≤ 64) (used : Int → Bool) (hc : c.2.2.1.length < 4611686018427387904) : ∀ (m i k : Nat) (F : List Bool) (z : Int), i + m = c.2.2.1.length → m < k → F.length = 65 →
    (0 < i → 1 ≤ c.2.2.1.getD (i - 1) 0) →
    (∀ t : Int, 1 ≤ t → t ≤ (ps.length : Int) → (0 < i → c.2.2.1.getD (i - 1) 0 < t) → (port ps t).2.2.1 = false → F.getD t.toNat false = used t) →
    (toB ps c.1 used (if i = 0 then 0 else c.2.2.1.getD (i - 1) 0) z (c.2.2.1.drop i) = true ∧ ∃ z', loopN (d157_L3 k0 K) k (((ps, (F, (z, ()))), (c, ())), ((i : Int), (c.2.2.1, (((c.2.2.1.length : Nat) : Int), ())))) = K (((ps, (marks F (c.2.2.1.drop i), (z', ()))), (c, ())), ())) ∨
    (toB ps c.1 used (if i = 0 then 0 else c.2.2.1.getD (i - 1) 0) z (c.2.2.1.drop i) = false ∧ ∃ y, loopN (d157_L3 k0 K) k (((ps, (F, (z, ()))), (c, ())), ((i : Int), (c.2.2.1, (((c.2.2.1.length : Nat) : Int), ())))) = some ((false, ()), (y, ()))) := by
  intro m
  induction m with
  | zero =>
    intro i k F z hi hk hF hpos hu
    obtain ⟨k, rfl⟩ : ∃ k', k = k' + 1 := ⟨k - 1, by omega⟩
    rw [List.drop_eq_nil_of_le (by omega)]
    exact .inl ⟨rfl, z, by simp only [loopN, d157_L3, lt, dnlt (show c.2.2.1.length ≤ i by omega), Bool.false_eq_true, if_false, marks, List.foldl_nil]⟩
  | succ m ih =>
    intro i k F z hi hk hF hpos hu
    obtain ⟨k, rfl⟩ : ∃ k', k = k' + 1 := ⟨k - 1, by omega⟩
    have h1 : i < c.2.2.1.length := by omega
    rw [List.drop_eq_getElem_cons h1]
    have hj := d206_eq k0 (ps, (F, (z, ()))) c.2.2.1[i] c.1 false hp hF
    simp only at hj
    have ei : c.2.2.1.getD i 0 = c.2.2.1[i] := getD_mem h1 0
    -- what join asks is what the rule asks
    have key : toOk ps c.1 used (if i = 0 then 0 else c.2.2.1.getD (i - 1) 0) z c.2.2.1[i] = (!(decide (i > 0) && decide (c.2.2.1[i] ≤ c.2.2.1.getD (i - 1) 0)) && joinB (ps, (F, (z, ()))) c.2.2.1[i] c.1 false) := by
      simp only [toOk, joinB]
      cases hw : wi c.2.2.1[i] 1 (ps.length : Int) with
      | false => simp
      | true =>
        have hw' := hw
        rw [wi_iff] at hw'
        have ea : decide ((if i = 0 then 0 else c.2.2.1.getD (i - 1) 0) < c.2.2.1[i]) = !(decide (i > 0) && decide (c.2.2.1[i] ≤ c.2.2.1.getD (i - 1) 0)) := by
          by_cases h0 : i = 0
          · subst h0
            rw [if_pos rfl]
            have : decide ((0 : Nat) > 0) = false := rfl
            rw [this, Bool.false_and, Bool.not_false]
            exact decide_eq_true (by omega)
          · rw [if_neg h0]
            have : decide (i > 0) = true := decide_eq_true (by omega)
            rw [this, Bool.true_and, Bool.eq_iff_iff]
            simp
        rw [ea]
        cases hb : (decide (i > 0) && decide (c.2.2.1[i] ≤ c.2.2.1.getD (i - 1) 0)) with
        | true => simp
        | false =>
          cases ho : (port ps c.2.2.1[i]).2.2.1 with
          | true => simp
          | false =>
            have hlt : 0 < i → c.2.2.1.getD (i - 1) 0 < c.2.2.1[i] := by
              intro h
              have : decide (i > 0) = true := decide_eq_true h
              rw [this, Bool.true_and] at hb
              have := of_decide_eq_false hb
              omega
            rw [hu c.2.2.1[i] hw'.1 hw'.2 hlt ho]
            cases used c.2.2.1[i] <;> cases ((port ps c.2.2.1[i]).2.1 == c.1) <;> cases (z == 0) <;> cases ((port ps c.2.2.1[i]).2.2.2.1 == z) <;> rfl
    have hgi : decide ((i : Int) > 0) = decide (i > 0) := by
      rw [Bool.eq_iff_iff]; simp
    have hin : (Bool.not ((decide (i > 0) == true) && true) || (decide ((0 : Int) ≤ IntKind.wrap .i64 ((i : Int) - 1)) && decide (IntKind.wrap .i64 ((i : Int) - 1) < ((c.2.2.1.length : Nat) : Int)))) = true := by
      by_cases h0 : i = 0
      · subst h0; rfl
      · rw [wrap_id (by omega) (by omega)]
        have a : decide ((0 : Int) ≤ (i : Int) - 1) = true := decide_eq_true (by omega)
        have b : decide ((i : Int) - 1 < ((c.2.2.1.length : Nat) : Int)) = true := decide_eq_true (by omega)
        rw [a, b]; simp
    have hat : (decide (i > 0) && decide (c.2.2.1[i] ≤ c.2.2.1.getD (IntKind.wrap .i64 ((i : Int) - 1)).toNat 0)) = (decide (i > 0) && decide (c.2.2.1[i] ≤ c.2.2.1.getD (i - 1) 0)) := by
      by_cases h0 : i = 0
      · subst h0; rfl
      · rw [wrap_id (by omega) (by omega), show ((i : Int) - 1).toNat = i - 1 by omega]
    simp only [loopN, d157_L3, lt, shr, dlt h1, dge0, Bool.and_self, if_true, Int.toNat_natCast, ei, hgi, hin, andT]
    simp only [toB, key]
    have hat' : (if decide (i > 0) = true then decide (c.2.2.1[i] ≤ c.2.2.1.getD (IntKind.wrap .i64 ((i : Int) - 1)).toNat 0) else false) = (decide (i > 0) && decide (c.2.2.1[i] ≤ c.2.2.1.getD (i - 1) 0)) := by
      rw [← hat]; cases decide (i > 0) <;> rfl
    rw [hat']
    cases hb : (decide (i > 0) && decide (c.2.2.1[i] ≤ c.2.2.1.getD (i - 1) 0)) with
    | true => exact .inr ⟨by simp, (ps, (F, (z, ()))), by simp⟩
    | false =>
      rcases hj with ⟨hj1, hj2⟩ | ⟨hj1, y, hj2⟩
      · have hjb := hj1
        simp only [joinB, Bool.and_eq_true] at hjb
        have hw := hjb.1.1
        rw [wi_iff] at hw
        have ho : (port ps c.2.2.1[i]).2.2.1 = false := by
          have := hjb.2.1.1
          simpa using this
        have hlt : 0 < i → c.2.2.1.getD (i - 1) 0 < c.2.2.1[i] := by
          intro h
          have e : decide (i > 0) = true := decide_eq_true h
          rw [e, Bool.true_and] at hb
          have := of_decide_eq_false hb
          omega
        have hs := ih (i + 1) k (F.set c.2.2.1[i].toNat true) (port ps c.2.2.1[i]).2.2.2.1 (by omega) (by omega) (by rw [List.length_set]; exact hF) (fun _ => by rw [show i + 1 - 1 = i by omega, ei]; exact hw.1) (by
          intro t t1 t2 t3 t4
          have t3 := t3 (by omega)
          rw [show i + 1 - 1 = i by omega, ei] at t3
          rw [List.getD_eq_getElem?_getD, List.getElem?_set_ne (by omega), ← List.getD_eq_getElem?_getD]
          exact hu t t1 t2 (fun h => by have := hlt h; omega) t4)
        rw [if_neg (by omega), show i + 1 - 1 = i by omega, ei] at hs
        simp only [hj1, hj2, d157_K2, wr1 (show i < 4611686018427387904 by omega), Bool.not_false, Bool.true_and, Bool.false_eq_true, if_false, if_true, beq_self_eq_true, Bool.and_self, Option.bind_some, Bool.not_true]
        exact hs
      · exact .inr ⟨by rw [hj1]; simp, y, by simp [hj2]⟩
end Go.Proofs.YtekgngedamnmaaaGreatDoor.L
