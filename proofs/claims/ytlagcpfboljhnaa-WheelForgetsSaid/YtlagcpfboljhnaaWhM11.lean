import Derived.Test.YtlagcpfboljhnaaWhM10
namespace Go.Proofs.Ytlagcpfboljhnaa.L
open Go Go.Lift
set_option linter.unusedVariables false
set_option linter.unusedSimpArgs false
theorem d9_eq (k : Nat) (n : Int) (m : MP) (R : RG) : d9 k (wh n m R, ()) = some (((m.length : Int), ()), ()) := rfl
theorem d10_eq (k : Nat) (n : Int) (m : MP) (R : RG) : d10 k (wh n m R, ()) = some ((n, ()), ()) := rfl
theorem d14_eq (k : Nat) (n id : Int) (m : MP) (R : RG) : d14 k (wh n m R, (id, ())) = some (((mget KI KI id (some m)).getD 0, ((mget KI KI id (some m)).isSome, ())), ()) := rfl
/-- Cancel, whatever is armed. -/
theorem d17_any (k : Nat) (n id : Int) (m : MP) (R : RG) (hi : Inv n m R) :
    ∃ m' R', d17 k (wh n m R, (id, ())) = some (((mget KI KI id (some m)).isSome, ()), (wh n m' R', ())) ∧ Inv n m' R' ∧ ∀ a b, (a, b) ∈ m' ↔ (a, b) ∈ m ∧ a ≠ id := by
  cases h : mget KI KI id (some m) with
  | none =>
    have h := mget_none.1 h
    exact ⟨m, R, d17_none k n id m R h, hi, fun a b => ⟨fun hab => ⟨hab, fun e => by subst e; exact h b hab⟩, fun hab => hab.1⟩⟩
  | some t =>
    have h := (mget_iff hi.inv.keys).1 h
    obtain ⟨R', h1, h2⟩ := d17_eq k n id t m R hi h
    exact ⟨_, R', h1, h2, (mdel_mem hi.inv.keys).2⟩
theorem forgets_true (now : Int) (arms : List I2) (hb : arms.length < 4611686018427387904) (id tick : Int) (an : Bool) (k : Nat) (hk : arms.length + 70000 ≤ k) :
    d4 k (now, (arms, (id, (tick, (an, ()))))) = some ((true, ()), ()) := by
  by_cases hnow : 0 ≤ now ∧ now ≤ top
  · obtain ⟨m, R, h1, h2, h3⟩ := d6_eq k now arms hb (by omega) hnow
    obtain ⟨n1, n2⟩ := hnow
    rw [top_eq] at n2
    unfold d4
    simp only [h1, Option.bind_some, lt, Option.isNone_some, Bool.false_eq_true, if_false, Bool.not_false]
    by_cases hlen : (arms.length : Int) > 3000
    · have c1 : decide ((arms.length : Int) > 3000) = true := decide_eq_true hlen
      simp only [c1, if_true, ite_self]
    · have c1 : decide ((arms.length : Int) > 3000) = false := decide_eq_false hlen
      simp only [c1, Bool.false_eq_true, if_false, Option.isSome_some, if_true, Option.getD_some, d14_eq, d9_eq, Option.bind_some, shr]
      cases an with
      | false =>
        obtain ⟨m1, R1, k1, k2, k3⟩ := d17_any k now id m R h2
        have k4 := d17_none k now id m1 R1 fun t ht => ((k3 id t).1 ht).2 rfl
        have hbe : ((mget KI KI id (some m)).isSome == (mget KI KI id (some m)).isSome) = true := by simp
        have c2 : (false == false) = true := rfl
        simp only [Bool.false_eq_true, if_false, k1, Option.bind_some, hbe, Bool.not_true, c2, Bool.and_self, if_true, Option.isSome_some, Option.getD_some, k4]
        exact K10_eq k (by omega) now now tick m1 m R1 R k2 h2 false id fun a b => (k3 a b).trans ⟨.inl, fun h => h.elim (fun h => h) (fun h => by cases h.1)⟩
      | true =>
        obtain ⟨m1, R1, k1, k2, k3, k4⟩ := d15_any k now id tick m R h2
        simp only [if_true, k1, Option.bind_some, d16_eq]
        cases hm : mayB now (tick, (id, ())) with
        | true =>
          have c2 : ((0 : Int) == 0) = true := rfl
          have c3 : (true == true) = true := rfl
          simp only [if_true, c2, c3, Bool.not_true, Bool.false_eq_true, if_false, bne_self_eq_false]
          exact K10_eq k (by omega) now now tick m1 m R1 R k2 h2 true id fun a b => (k3 hm a b).trans ⟨fun h => h.elim .inl fun h => .inr ⟨rfl, h⟩, fun h => h.elim .inl fun h => .inr h.2⟩
        | false =>
          obtain rfl := k4 hm
          have c2 : ((2 : Int) == 0) = false := rfl
          have c3 : (false == false) = true := rfl
          have c4 : ((2 : Int) != 0) = true := rfl
          simp only [Bool.false_eq_true, if_false, c2, c3, c4, Bool.not_true, if_true, Option.isSome_some, Option.getD_some, d14_eq, Option.bind_some, beq_self_eq_true, Bool.and_self, d9_eq]
  · have hn : now < 0 ∨ now > top := by omega
    unfold d4
    simp only [d6_none k now arms hn, Option.bind_some, lt, Option.isNone_none, if_true]
    rw [top_eq] at hn
    rcases hn with h | h
    · have c1 : decide (now < 0) = true := decide_eq_true h
      simp only [c1, if_true]
    · have c1 : decide (now > 1099511627776) = true := decide_eq_true h
      simp only [c1, ite_self, if_true]
end Go.Proofs.Ytlagcpfboljhnaa.L
