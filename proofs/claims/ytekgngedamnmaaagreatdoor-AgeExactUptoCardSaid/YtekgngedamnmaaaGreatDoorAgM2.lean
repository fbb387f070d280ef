import Derived.Test.YtekgngedamnmaaaGreatDoorAgM1
namespace Go.Proofs.YtekgngedamnmaaaGreatDoor.L
open Go Go.Lift
set_option linter.unusedVariables false
set_option linter.unusedSimpArgs false
set_option maxRecDepth 100000

/-! ### greatest divisors -/
theorem tmod_nat (a b : Nat) : Int.tmod (a : Int) (b : Int) = ((a % b : Nat) : Int) := rfl
theorem tdiv_nat (a b : Nat) : Int.tdiv (a : Int) (b : Int) = ((a / b : Nat) : Int) := rfl
theorem nz {b : Nat} (h : 0 < b) : ((b : Int) != 0) = true ∧ ((b : Int) == 0) = false ∧ ((b : Int) == Neg.neg (1 : Int)) = false := by
  refine ⟨?_, ?_, ?_⟩
  · rw [bne_iff_ne]; omega
  · rw [beq_eq_false_iff_ne]; omega
  · rw [beq_eq_false_iff_ne]; omega
theorem z0 : (((0 : Nat) : Int) != 0) = false := rfl
theorem gcd_loop (K : Unit × (Int × Unit) → Option ((Int × Unit) × Unit)) : ∀ k b a : Nat, b < k → loopN (d142_L4 K) k ((), ((b : Int), ((a : Int), ()))) = K ((), (((Nat.gcd b a : Nat) : Int), ())) := by
  intro k
  induction k with
  | zero => intro b a h; omega
  | succ k ih =>
    intro b a h
    rcases Nat.eq_zero_or_pos b with rfl | hb
    · simp only [loopN, d142_L4, lt, z0, Bool.false_eq_true, if_false, Nat.gcd_zero_left]
    · obtain ⟨h1, h2, h3⟩ := nz hb
      have := ih (a % b) b (by have := Nat.mod_lt a hb; omega)
      simp only [loopN, d142_L4, lt, shr, h1, h2, h3, if_true, Bool.false_eq_true, if_false, Bool.not_false, d142_K3, tmod_nat]
      rw [this, ← Nat.gcd_rec]
theorem gcd_num (k a b : Nat) (h : b < k) : d142 k ((a : Int), ((b : Int), ())) = some ((((Nat.gcd b a : Nat) : Int), ()), ()) := by
  have d1 : decide (((Nat.gcd b a : Nat) : Int) < 0) = false := decide_eq_false (by omega)
  have d2 : (if (0 : Int) > ((Nat.gcd b a : Nat) : Int) then (0 : Int) else ((Nat.gcd b a : Nat) : Int)) = ((Nat.gcd b a : Nat) : Int) := if_neg (by omega)
  simp only [d142, shr, gcd_loop d142_K2 k b a h, d142_K2, lt, d1, Bool.false_eq_true, if_false, d142_K1, d2]
theorem wu {n : Nat} (h : n < 18446744073709551616) : IntKind.wrap .u64 (n : Int) = (n : Int) := by
  simp [IntKind.wrap, IntKind.signed, IntKind.bits]; omega
theorem ws {n : Nat} (h : n < 9223372036854775808) : IntKind.wrap .i64 (n : Int) = (n : Int) := by
  simp [IntKind.wrap, IntKind.signed, IntKind.bits]; omega
theorem d207_nat (k n : Nat) (h : n < 18446744073709551616) : d207 k ((n : Int), ()) = some (((n : Int), ()), ()) := by
  have d1 : decide ((n : Int) < 0) = false := decide_eq_false (by omega)
  simp only [d207, lt, d1, Bool.false_eq_true, if_false, wu h]
theorem d208_nat (k n : Nat) (h : n < 9223372036854775808) : d208 k (false, ((n : Int), ())) = some (((n : Int), (true, ())), ()) := by
  have d1 : decide ((n : Int) > 9223372036854775807) = false := decide_eq_false (by omega)
  simp only [d208, lt, d1, Bool.false_eq_true, if_false, ws h]
theorem gcdr_loop (K : Unit × (Int × Unit) → Option ((Int × Unit) × Unit)) : ∀ k b a : Nat, b < k → loopN (d159_L3 K) k ((), ((b : Int), ((a : Int), ()))) = K ((), (((Nat.gcd b a : Nat) : Int), ())) := by
  intro k
  induction k with
  | zero => intro b a h; omega
  | succ k ih =>
    intro b a h
    rcases Nat.eq_zero_or_pos b with rfl | hb
    · simp only [loopN, d159_L3, lt, z0, Bool.false_eq_true, if_false, Nat.gcd_zero_left]
    · obtain ⟨h1, h2, h3⟩ := nz hb
      have := ih (a % b) b (by have := Nat.mod_lt a hb; omega)
      simp only [loopN, d159_L3, lt, shr, h1, h2, h3, if_true, Bool.false_eq_true, if_false, Bool.not_false, d159_K2, tmod_nat]
      rw [this, ← Nat.gcd_rec]
theorem gcd_ref (k a b : Nat) (h : b < k) (ha : a ≤ 1048576) (hb : b ≤ 1048576) (hb0 : 0 < b) : d159 k ((a : Int), ((b : Int), ())) = some ((((Nat.gcd b a : Nat) : Int), ()), ()) := by
  have hg : Nat.gcd b a ≤ b := Nat.gcd_le_left _ hb0
  simp only [d159, shr, d207_nat k a (by omega), d207_nat k b (by omega), Option.bind_some, gcdr_loop (d159_K1 k) k b a h, d159_K1, d208_nat k (Nat.gcd b a) (by omega)]
theorem mul_ref (k m q : Nat) (hm : 0 < m) (hm2 : m ≤ 1048576) (hq : q ≤ 1048576) : d158 k ((m : Int), ((q : Int), ())) = some ((((m * q : Nat) : Int), (true, ())), ()) := by
  obtain ⟨h1, h2, h3⟩ := nz hm
  have hmq : m * q ≤ 1048576 * 1048576 := Nat.mul_le_mul hm2 hq
  have d1 : decide ((m : Int) < 0) = false := decide_eq_false (by omega)
  have d2 : decide ((q : Int) < 0) = false := decide_eq_false (by omega)
  have e1 : Int.tdiv 9223372036854775808 (m : Int) = ((9223372036854775808 / m : Nat) : Int) := rfl
  have hle : 9223372036854775808 / m ≤ 9223372036854775808 := Nat.div_le_self _ _
  have hge : 8796093022208 ≤ 9223372036854775808 / m := by
    rw [Nat.le_div_iff_mul_le hm]; omega
  have d3 : decide ((q : Int) > ((9223372036854775808 / m : Nat) : Int)) = false := decide_eq_false (by omega)
  have e2 : IntKind.wrap .u64 ((m : Int) * (q : Int)) = ((m * q : Nat) : Int) := by rw [← Int.natCast_mul]; exact wu (by omega)
  simp only [d158, lt, d207_nat k m (by omega), d207_nat k q (by omega), Option.bind_some, h1, h2, d1, d2, e1, wu (show 9223372036854775808 / m < 18446744073709551616 by omega), d3, e2, if_true, Bool.not_false, Bool.or_true, Bool.and_true, beq_self_eq_true, Bool.not_true, Bool.false_eq_true, if_false, d208_nat k (m * q) (by omega), Bool.or_false]

/-! ### least multiples -/
def lcmF : Nat → List Nat → Option Nat
  | m, [] => some m
  | m, x :: xs => if 1048576 < m * (x / Nat.gcd x m) then none else lcmF (m * (x / Nat.gcd x m)) xs
def pOk (ns : List Nat) : Prop := ∀ x ∈ ns, 0 < x ∧ x ≤ 1048576
def ints (ns : List Nat) : List Int := List.map (fun n : Nat => ((n : Nat) : Int)) ns
theorem ints_len (ns : List Nat) : (ints ns).length = ns.length := List.length_map ..
theorem ints_get {ns : List Nat} {i : Nat} (h : i < ns.length) : (ints ns).getD i 0 = (ns[i] : Int) := by
  rw [List.getD_eq_getElem?_getD, List.getElem?_eq_getElem (by rw [ints_len]; exact h)]
  simp [ints]
theorem lcm_step {m x : Nat} (hm : 0 < m) (hx : 0 < x) : decide (((x / Nat.gcd x m : Nat) : Int) > ((1048576 / m : Nat) : Int)) = decide (1048576 < m * (x / Nat.gcd x m)) := by
  have : 1048576 / m < x / Nat.gcd x m ↔ 1048576 < x / Nat.gcd x m * m := Nat.div_lt_iff_lt_mul hm
  rw [Nat.mul_comm m]
  by_cases h : 1048576 < x / Nat.gcd x m * m
  · rw [decide_eq_true h, decide_eq_true (by have := this.2 h; omega)]
  · rw [decide_eq_false h, decide_eq_false (by have := fun h' => h (this.1 h'); omega)]
theorem lcm_loop (k0 : Nat) (hk0 : 1048576 < k0) (X : Unit × Unit → Option ((Int × (Bool × Unit)) × Unit)) (K : Unit × (Int × (Int × Unit)) → Option ((Int × (Bool × Unit)) × Unit)) (ns : List Nat) (hn : pOk ns) (hl : ns.length ≤ 32) : ∀ (r i k m : Nat), i + r = ns.length → r < k → 0 < m → m ≤ 1048576 →
    loopN (d111_L4 k0 X K) k ((), ((i : Int), ((m : Int), ((1048576 : Int), (ints ns, ((ns.length : Int), ())))))) = match lcmF m (ns.drop i) with | none => X ((), ()) | some m' => K ((), ((m' : Int), ((1048576 : Int), ()))) := by
  intro r
  induction r with
  | zero =>
    intro i k m hi hk hm hm2
    obtain ⟨k, rfl⟩ : ∃ k', k = k' + 1 := ⟨k - 1, by omega⟩
    rw [List.drop_eq_nil_of_le (by omega)]
    simp only [loopN, d111_L4, lt, dnlt (show ns.length ≤ i by omega), Bool.false_eq_true, if_false, lcmF]
  | succ r ih =>
    intro i k m hi hk hm hm2
    obtain ⟨k, rfl⟩ : ∃ k', k = k' + 1 := ⟨k - 1, by omega⟩
    have h1 : i < ns.length := by omega
    obtain ⟨p1, p2⟩ := hn ns[i] (List.getElem_mem h1)
    have hg : 0 < Nat.gcd ns[i] m := Nat.gcd_pos_of_pos_left _ p1
    obtain ⟨_, g2, _⟩ := nz hg
    obtain ⟨_, m2, _⟩ := nz hm
    have hq : ns[i] / Nat.gcd ns[i] m ≤ ns[i] := Nat.div_le_self _ _
    have hmd : 1048576 / m ≤ 1048576 := Nat.div_le_self _ _
    have e1 : Int.tdiv 1048576 (m : Int) = ((1048576 / m : Nat) : Int) := rfl
    have hlen : ((ints ns).length : Int) = (ns.length : Int) := by rw [ints_len]
    rw [List.drop_eq_getElem_cons h1]
    simp only [loopN, d111_L4, lt, shr, dlt h1, dge0, hlen, Bool.and_self, if_true, Int.toNat_natCast, ints_get h1, gcd_num k0 m ns[i] (by omega), Option.bind_some, g2, m2, Bool.not_false, tdiv_nat, e1, ws (show ns[i] / Nat.gcd ns[i] m < 9223372036854775808 by omega), ws (show 1048576 / m < 9223372036854775808 by omega), lcm_step hm p1, lcmF]
    by_cases hc : 1048576 < m * (ns[i] / Nat.gcd ns[i] m)
    · simp only [decide_eq_true_eq, if_true, hc]
    · have hm0 : 0 < m * (ns[i] / Nat.gcd ns[i] m) := Nat.mul_pos hm (Nat.div_pos (Nat.gcd_le_left _ p1) hg)
      have e2 : IntKind.wrap .i64 ((m : Int) * ((ns[i] / Nat.gcd ns[i] m : Nat) : Int)) = ((m * (ns[i] / Nat.gcd ns[i] m) : Nat) : Int) := by rw [← Int.natCast_mul]; exact ws (by omega)
      simp only [decide_eq_false hc, Bool.false_eq_true, if_false, hc, d111_K3, e2, wr1 (show i < 4611686018427387904 by omega)]
      exact ih (i + 1) k _ (by omega) (by omega) hm0 (by omega)
theorem one_loop (X : Unit × Unit → Option ((Int × (Bool × Unit)) × Unit)) (K : Unit × (Int × (Int × ((List Int) × Unit))) → Option ((Int × (Bool × Unit)) × Unit)) (a b : Int) (c : List Int) (ns : List Nat) (hn : pOk ns) (hl : ns.length ≤ 32) : ∀ r i k, i + r = ns.length → r < k →
    loopN (d111_L7 X K) k ((), ((i : Int), (ints ns, (a, (b, (c, ((ns.length : Int), ()))))))) = K ((), (a, (b, (c, ())))) := by
  intro r
  induction r with
  | zero =>
    intro i k hi hk
    obtain ⟨k, rfl⟩ : ∃ k', k = k' + 1 := ⟨k - 1, by omega⟩
    simp only [loopN, d111_L7, lt, dnlt (show ns.length ≤ i by omega), Bool.false_eq_true, if_false]
  | succ r ih =>
    intro i k hi hk
    obtain ⟨k, rfl⟩ : ∃ k', k = k' + 1 := ⟨k - 1, by omega⟩
    have h1 : i < ns.length := by omega
    obtain ⟨p1, p2⟩ := hn ns[i] (List.getElem_mem h1)
    have d1 : decide ((ns[i] : Int) < 1) = false := decide_eq_false (by omega)
    have hlen : ((ints ns).length : Int) = (ns.length : Int) := by rw [ints_len]
    simp only [loopN, d111_L7, lt, shr, dlt h1, dge0, hlen, Bool.and_self, if_true, Int.toNat_natCast, ints_get h1, d1, Bool.false_eq_true, if_false, d111_K6, wr1 (show i < 4611686018427387904 by omega)]
    exact ih (i + 1) k (by omega) (by omega)
def lcmR : Option Nat → Int × (Bool × Unit)
  | none => (0, (false, ()))
  | some m => ((m : Int), (true, ()))
theorem lcmF_le : ∀ (ns : List Nat) (m m' : Nat), m ≤ 1048576 → lcmF m ns = some m' → m' ≤ 1048576
  | [], m, m', h, e => by obtain rfl := Option.some.inj e; exact h
  | x :: xs, m, m', h, e => by
    simp only [lcmF] at e
    split at e
    · cases e
    · exact lcmF_le xs _ m' (by omega) e
theorem lcm_num (k : Nat) (hk : 1048600 < k) (ns : List Nat) (hn : pOk ns) (hl : ns.length ≤ 32) : d111 k (ints ns, ((1048576 : Int), ())) = some (lcmR (lcmF 1 ns), ()) := by
  obtain ⟨k', rfl⟩ : ∃ k', k = k' + 1 := ⟨k - 1, by omega⟩
  have hlen : ((ints ns).length : Int) = (ns.length : Int) := by rw [ints_len]
  have a1 := one_loop d111_K1 (d111_K5 (k' + 1) d111_K1) 1 1048576 (ints ns) ns hn hl ns.length 0 (k' + 1) (by omega) (by omega)
  have a2 := lcm_loop (k' + 1) (by omega) d111_K1 (d111_K2 d111_K1) ns hn hl ns.length 0 (k' + 1) 1 (by omega) (by omega) (by omega) (by omega)
  simp only [d111, shr]
  rw [loopN]
  simp only [d111_L8, shr, hlen]
  refine Eq.trans a1 ?_
  simp only [d111_K5, shr, hlen]
  refine Eq.trans a2 ?_
  rw [List.drop_zero]
  cases h : lcmF 1 ns with
  | none => rfl
  | some m =>
    have := lcmF_le ns 1 m (by omega) h
    have d1 : decide ((m : Int) > 1048576) = false := decide_eq_false (by omega)
    simp only [d111_K2, lt, d1, Bool.false_eq_true, if_false, lcmR]
theorem lcmr_loop (k0 : Nat) (hk0 : 1048576 < k0) (K : Unit × (Int × (Int × Unit)) → Option ((Int × (Bool × Unit)) × Unit)) (ns : List Nat) (hn : pOk ns) (hl : ns.length ≤ 32) : ∀ (r i k m : Nat), i + r = ns.length → r < k → 0 < m → m ≤ 1048576 →
    loopN (d136_L3 k0 K) k ((), ((i : Int), ((1048576 : Int), (ints ns, ((m : Int), ()))))) = match lcmF m (ns.drop i) with | none => some ((0, (false, ())), ()) | some m' => K ((), ((m' : Int), ((1048576 : Int), ()))) := by
  intro r
  induction r with
  | zero =>
    intro i k m hi hk hm hm2
    obtain ⟨k, rfl⟩ : ∃ k', k = k' + 1 := ⟨k - 1, by omega⟩
    have hlen : ((ints ns).length : Int) = (ns.length : Int) := by rw [ints_len]
    rw [List.drop_eq_nil_of_le (by omega)]
    simp only [loopN, d136_L3, lt, hlen, dnlt (show ns.length ≤ i by omega), Bool.false_eq_true, if_false, lcmF]
  | succ r ih =>
    intro i k m hi hk hm hm2
    obtain ⟨k, rfl⟩ : ∃ k', k = k' + 1 := ⟨k - 1, by omega⟩
    have h1 : i < ns.length := by omega
    obtain ⟨p1, p2⟩ := hn ns[i] (List.getElem_mem h1)
    have hg : 0 < Nat.gcd ns[i] m := Nat.gcd_pos_of_pos_left _ p1
    obtain ⟨_, g2, _⟩ := nz hg
    have hq : ns[i] / Nat.gcd ns[i] m ≤ ns[i] := Nat.div_le_self _ _
    have hlen : ((ints ns).length : Int) = (ns.length : Int) := by rw [ints_len]
    rw [List.drop_eq_getElem_cons h1]
    simp only [loopN, d136_L3, lt, shr, hlen, dlt h1, dge0, Bool.and_self, if_true, Int.toNat_natCast, ints_get h1, gcd_ref k0 m ns[i] (by omega) hm2 p2 p1, Option.bind_some, g2, Bool.not_false, tdiv_nat, ws (show ns[i] / Nat.gcd ns[i] m < 9223372036854775808 by omega), mul_ref k0 m (ns[i] / Nat.gcd ns[i] m) hm hm2 (by omega), Bool.not_true, Bool.false_eq_true, if_false, lcmF]
    by_cases hc : 1048576 < m * (ns[i] / Nat.gcd ns[i] m)
    · have d1 : decide (((m * (ns[i] / Nat.gcd ns[i] m) : Nat) : Int) > 1048576) = true := decide_eq_true (by omega)
      simp only [d1, if_true, hc]
    · have d1 : decide (((m * (ns[i] / Nat.gcd ns[i] m) : Nat) : Int) > 1048576) = false := decide_eq_false (by omega)
      have hm0 : 0 < m * (ns[i] / Nat.gcd ns[i] m) := Nat.mul_pos hm (Nat.div_pos (Nat.gcd_le_left _ p1) hg)
      simp only [d1, Bool.false_eq_true, if_false, hc, d136_K2, wr1 (show i < 4611686018427387904 by omega)]
      exact ih (i + 1) k _ (by omega) (by omega) hm0 (by omega)
theorem oner_loop (K : Unit × (Int × ((List Int) × (Int × Unit))) → Option ((Int × (Bool × Unit)) × Unit)) (a b : Int) (ns : List Nat) (hn : pOk ns) (hl : ns.length ≤ 32) : ∀ r i k, i + r = ns.length → r < k →
    loopN (d136_L6 K) k ((), ((i : Int), (ints ns, (a, (b, ()))))) = K ((), (a, (ints ns, (b, ())))) := by
  intro r
  induction r with
  | zero =>
    intro i k hi hk
    obtain ⟨k, rfl⟩ : ∃ k', k = k' + 1 := ⟨k - 1, by omega⟩
    have hlen : ((ints ns).length : Int) = (ns.length : Int) := by rw [ints_len]
    simp only [loopN, d136_L6, lt, hlen, dnlt (show ns.length ≤ i by omega), Bool.false_eq_true, if_false]
  | succ r ih =>
    intro i k hi hk
    obtain ⟨k, rfl⟩ : ∃ k', k = k' + 1 := ⟨k - 1, by omega⟩
    have h1 : i < ns.length := by omega
    obtain ⟨p1, p2⟩ := hn ns[i] (List.getElem_mem h1)
    have d1 : decide ((ns[i] : Int) < 1) = false := decide_eq_false (by omega)
    have hlen : ((ints ns).length : Int) = (ns.length : Int) := by rw [ints_len]
    simp only [loopN, d136_L6, lt, shr, hlen, dlt h1, dge0, Bool.and_self, if_true, Int.toNat_natCast, ints_get h1, d1, Bool.false_eq_true, if_false, d136_K5, wr1 (show i < 4611686018427387904 by omega)]
    exact ih (i + 1) k (by omega) (by omega)
theorem lcm_ref (k : Nat) (hk : 1048600 < k) (ns : List Nat) (hn : pOk ns) (hl : ns.length ≤ 32) : d136 k (ints ns, ((1048576 : Int), ())) = some (lcmR (lcmF 1 ns), ()) := by
  have a1 := oner_loop (d136_K4 k) 1048576 1 ns hn hl ns.length 0 k (by omega) (by omega)
  have a2 := lcmr_loop k (by omega) d136_K1 ns hn hl ns.length 0 k 1 (by omega) (by omega) (by omega) (by omega)
  simp only [d136, shr]
  refine Eq.trans a1 ?_
  simp only [d136_K4, shr]
  refine Eq.trans a2 ?_
  rw [List.drop_zero]
  cases h : lcmF 1 ns with
  | none => rfl
  | some m =>
    have := lcmF_le ns 1 m (by omega) h
    have d1 : decide ((m : Int) > 1048576) = false := decide_eq_false (by omega)
    simp only [d136_K1, lt, d1, Bool.false_eq_true, if_false, lcmR]
end Go.Proofs.YtekgngedamnmaaaGreatDoor.L
