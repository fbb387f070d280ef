import Derived.Test.YtlagcpfboljhnaaWhM7
namespace Go.Proofs.Ytlagcpfboljhnaa.L
open Go Go.Lift
set_option linter.unusedVariables false
set_option linter.unusedSimpArgs false
/-! ### What the laws say of the arms -/
def mayB (now : Int) (f : I2) : Bool := decide (0 ≤ f.2.1 ∧ f.2.1 ≤ 65535 ∧ now ≤ f.1 ∧ f.1 < top)
theorem d16_eq (k : Nat) (now : Int) (f : I2) : d16 k (f, (now, ())) = some ((mayB now f, ()), ()) := by
  unfold d16 mayB
  simp only [lt, top_eq]
  congr 3
  rw [Bool.eq_iff_iff]
  simp [and_assoc]
  exact decide_eq_true_iff.symm
/-- The last of this number that may be armed. -/
def upd (now id : Int) (a : Option Int) (f : I2) : Option Int := if f.2.1 == id && mayB now f then some f.1 else a
def lastP (now : Int) (arms : List I2) (id : Int) : Option Int := arms.foldl (upd now id) none
theorem getD_get {l : List I2} {i : Nat} (h : i < l.length) (z : I2) : l.getD i z = l[i] := by simp [h]
theorem d11_run (x0 : Nat) (K : (Unit × (Bool × (Int × Unit))) → Option ((Int × (Bool × Unit)) × Unit)) (arms : List I2) (hb : arms.length < 4611686018427387904) (now id : Int) :
    ∀ (c j f : Nat) (a : Option Int), j + c = arms.length → c + 1 ≤ f →
      loopN (d11_L4 x0 K) f ((), ((j : Int), (arms, (now, (id, (a.isSome, (a.getD 0, ()))))))) = K ((), (((arms.drop j).foldl (upd now id) a).isSome, (((arms.drop j).foldl (upd now id) a).getD 0, ())))
  | 0, j, f + 1, a, h, hf => by
    rw [List.drop_eq_nil_of_le (by omega)]
    show d11_L4 x0 K (loopN (d11_L4 x0 K) f) _ = _
    unfold d11_L4
    have c1 : decide ((j : Int) < (arms.length : Int)) = false := decide_eq_false (by omega)
    simp only [lt, c1, Bool.false_eq_true, if_false]
    rfl
  | c + 1, j, f + 1, a, h, hf => by
    have hj : j < arms.length := by omega
    rw [List.drop_eq_getElem_cons hj, List.foldl_cons]
    rw [← d11_run x0 K arms hb now id c (j + 1) f _ (by omega) (by omega)]
    show d11_L4 x0 K (loopN (d11_L4 x0 K) f) _ = _
    generalize loopN (d11_L4 x0 K) f = G
    unfold d11_L4
    have c1 : decide ((j : Int) < (arms.length : Int)) = true := decide_eq_true (by omega)
    have c2 : decide ((0 : Int) ≤ (j : Int)) = true := decide_eq_true (by omega)
    have e2 : arms.getD (j : Int).toNat (0, (0, ())) = arms[j] := by rw [Int.toNat_natCast]; exact getD_get hj _
    have e4 : IntKind.i64.wrap ((j : Int) + 1) = ((j + 1 : Nat) : Int) := by rw [wrap_in _ (by omega)]; omega
    simp only [lt, shr, c1, c2, Bool.and_true, Bool.or_true, if_true, e2, d16_eq, d11_K2, d11_K3, e4, upd]
    by_cases h1 : arms[j].2.1 = id <;> by_cases h2 : mayB now arms[j] = true <;> simp [h1, h2]
theorem d11_eq (k : Nat) (arms : List I2) (hb : arms.length < 4611686018427387904) (hk : arms.length + 1 ≤ k) (now id : Int) :
    d11 k (arms, (now, (id, ()))) = some (((lastP now arms id).getD 0, ((lastP now arms id).isSome, ())), ()) := by
  unfold d11
  simp only [shr]
  have := d11_run k d11_K1 arms hb now id arms.length 0 k none (by omega) hk
  simp only [Option.isSome_none, Option.getD_none, List.drop_zero] at this
  exact this
/-! ### New and filled -/
theorem d18_bad (k : Nat) (n : Int) (h : n < 0 ∨ n > top) : d18 k (n, ()) = some ((none, (2, ())), ()) := by
  rw [top_eq] at h
  unfold d18
  have : (if decide (n < 0) = true then true else decide (n > 1099511627776)) = true := by
    by_cases h1 : n < 0 <;> by_cases h2 : n > 1099511627776 <;> simp_all
  simp only [lt]
  rw [this, if_pos rfl]
theorem d18_ok (k : Nat) (n : Int) (h : 0 ≤ n ∧ n ≤ top) : d18 k (n, ()) = some ((some (wh n [] (List.replicate 7 row0)), (0, ())), ()) := by
  rw [top_eq] at h
  unfold d18
  have c1 : decide (n < 0) = false := decide_eq_false (by omega)
  have c2 : decide (n > 1099511627776) = false := decide_eq_false (by omega)
  simp only [lt, c1, c2, Bool.false_eq_true, if_false]
theorem inv0 (n : Int) (h : 0 ≤ n ∧ n ≤ top) : Inv n [] (List.replicate 7 row0) := by
  refine ⟨⟨shp0, List.nodup_nil, fun id t h => (by simp at h), fun l d hl hd => ?_⟩, h, fun id t h => (by simp at h)⟩
  rw [ring0 l d hl hd]
  exact ⟨List.nodup_nil, fun id => ⟨fun h => (by simp at h), fun ⟨t, h, _⟩ => (by simp at h)⟩⟩
/-- Arm, whatever is armed. -/
theorem d15_any (k : Nat) (n id t : Int) (m : MP) (R : RG) (hi : Inv n m R) :
    ∃ m' R', d15 k (wh n m R, (id, (t, ()))) = some ((if mayB n (t, (id, ())) then 0 else 2, ()), (wh n m' R', ())) ∧ Inv n m' R' ∧ (mayB n (t, (id, ())) = true → ∀ a b, (a, b) ∈ m' ↔ ((a, b) ∈ m ∧ a ≠ id) ∨ (a = id ∧ b = t)) ∧ (mayB n (t, (id, ())) = false → m' = m) := by
  cases h : mayB n (t, (id, ())) with
  | true =>
    obtain ⟨m', R', h1, h2, h3⟩ := d15_ok k n id t m R hi (of_decide_eq_true h)
    exact ⟨m', R', h1, h2, fun _ => h3, fun h => (by cases h)⟩
  | false =>
    refine ⟨m, R, d15_bad k n id t m R ?_, hi, fun h => (by cases h), fun _ => rfl⟩
    have h : ¬ (0 ≤ id ∧ id ≤ 65535 ∧ n ≤ t ∧ t < top) := of_decide_eq_false h
    omega
def Has (m : MP) (g : Int → Option Int) : Prop := ∀ a b, (a, b) ∈ m ↔ g a = some b
theorem d6_run (x0 : Nat) (now : Int) (arms : List I2) (hb : arms.length < 4611686018427387904) :
    ∀ (c j f : Nat) (m : MP) (R : RG) (g : Int → Option Int), j + c = arms.length → c + 1 ≤ f → Inv now m R → Has m g →
      ∃ m' R', loopN (d6_L3 x0 d6_K1) f ((some (wh now m R), ()), ((j : Int), (arms, ()))) = some ((some (wh now m' R'), ()), ()) ∧ Inv now m' R' ∧ Has m' (fun id => (arms.drop j).foldl (upd now id) (g id))
  | 0, j, f + 1, m, R, g, h, hf, hi, hg => by
    refine ⟨m, R, ?_, hi, ?_⟩
    · show d6_L3 x0 d6_K1 (loopN (d6_L3 x0 d6_K1) f) _ = _
      unfold d6_L3
      have c1 : decide ((j : Int) < (arms.length : Int)) = false := decide_eq_false (by omega)
      simp only [lt, c1, Bool.false_eq_true, if_false]
      rfl
    · rw [List.drop_eq_nil_of_le (by omega)]; exact hg
  | c + 1, j, f + 1, m, R, g, h, hf, hi, hg => by
    have hj : j < arms.length := by omega
    obtain ⟨m1, R1, k1, k2, k3, k4⟩ := d15_any x0 now arms[j].2.1 arms[j].1 m R hi
    obtain ⟨m2, R2, q1, q2, q3⟩ := d6_run x0 now arms hb c (j + 1) f m1 R1 (fun id => upd now id (g id) arms[j]) (by omega) (by omega) k2 (fun a b => by
      show _ ↔ (if arms[j].2.1 == a && mayB now arms[j] then some arms[j].1 else g a) = some b
      by_cases hm : mayB now arms[j] = true
      · rw [k3 hm, hg]
        by_cases he : arms[j].2.1 = a
        · subst he; simp [hm]; exact eq_comm
        · have : a ≠ arms[j].2.1 := fun e => he e.symm
          simp [he, this]
      · rw [k4 (by simpa using hm), hg]
        simp [hm])
    refine ⟨m2, R2, ?_, q2, ?_⟩
    · rw [← q1]
      show d6_L3 x0 d6_K1 (loopN (d6_L3 x0 d6_K1) f) _ = _
      generalize loopN (d6_L3 x0 d6_K1) f = G
      unfold d6_L3
      have c1 : decide ((j : Int) < (arms.length : Int)) = true := decide_eq_true (by omega)
      have c2 : decide ((0 : Int) ≤ (j : Int)) = true := decide_eq_true (by omega)
      have e2 : arms.getD (j : Int).toNat (0, (0, ())) = arms[j] := by rw [Int.toNat_natCast]; exact getD_get hj _
      have e4 : IntKind.i64.wrap ((j : Int) + 1) = ((j + 1 : Nat) : Int) := by rw [wrap_in _ (by omega)]; omega
      simp only [lt, shr, c1, c2, Bool.and_true, if_true, e2, Option.isSome_some, Option.getD_some, k1, Option.bind_some, d6_K2, e4]
    · rw [List.drop_eq_getElem_cons hj]
      exact q3
theorem d6_none (k : Nat) (now : Int) (arms : List I2) (h : now < 0 ∨ now > top) : d6 k (now, (arms, ())) = some ((none, ()), ()) := by
  unfold d6
  simp only [d18_bad k now h, Option.bind_some, lt, Option.isNone_none, if_true]
theorem d6_eq (k : Nat) (now : Int) (arms : List I2) (hb : arms.length < 4611686018427387904) (hk : arms.length + 1 ≤ k) (h : 0 ≤ now ∧ now ≤ top) :
    ∃ m R, d6 k (now, (arms, ())) = some ((some (wh now m R), ()), ()) ∧ Inv now m R ∧ Has m (lastP now arms) := by
  obtain ⟨m, R, h1, h2, h3⟩ := d6_run k now arms hb arms.length 0 k [] _ (fun _ => none) (by omega) hk (inv0 now h) (fun a b => by simp)
  refine ⟨m, R, ?_, h2, by rw [List.drop_zero] at h3; exact h3⟩
  rw [← h1]
  unfold d6
  simp only [d18_ok k now h, Option.bind_some, lt, Option.isNone_some, Bool.false_eq_true, if_false, bne_self_eq_false, shr]
  rfl
end Go.Proofs.Ytlagcpfboljhnaa.L
