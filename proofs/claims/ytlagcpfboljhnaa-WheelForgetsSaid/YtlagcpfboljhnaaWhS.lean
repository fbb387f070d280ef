import Derived.Test.YtlagcpfboljhnaaSf
import Derived.Test.YtlagcpfboljhnaaLiftD
import Derived.Deep.RegionWith
namespace Go.Proofs.Ytlagcpfboljhnaa.L
open Go Go.RowKit Go.Lift
set_option linter.unusedVariables false
set_option linter.unusedSimpArgs false
theorem wrap_nat (n : Nat) (h : n < 9223372036854775808) : IntKind.i64.wrap (n : Int) = n := by
  unfold IntKind.wrap
  simp [IntKind.signed, IntKind.bits]
  omega
theorem bits_and (a b : Nat) (ha : a < 9223372036854775808) (hb : b < 9223372036854775808) : bits .and .i64 (a : Int) (b : Int) = ((a &&& b : Nat) : Int) := by
  have h1 : a &&& b < 9223372036854775808 := Nat.lt_of_le_of_lt Nat.and_le_left ha
  have e1 : a % 18446744073709551616 = a := Nat.mod_eq_of_lt (by omega)
  have e2 : b % 18446744073709551616 = b := Nat.mod_eq_of_lt (by omega)
  have h3 : bits .and .i64 (a : Int) (b : Int) = IntKind.i64.wrap (((BitVec.ofNat 64 a &&& BitVec.ofNat 64 b).toNat : Nat) : Int) := by
    show IntKind.i64.wrap (((BitVec.ofInt 64 a &&& BitVec.ofInt 64 b).toNat : Nat) : Int) = _
    rw [BitVec.ofInt_natCast, BitVec.ofInt_natCast]
  rw [h3, BitVec.toNat_and, BitVec.toNat_ofNat, BitVec.toNat_ofNat, show 2 ^ 64 = 18446744073709551616 from rfl, e1, e2]
  exact wrap_nat _ h1
theorem bits_xor (a b : Nat) (ha : a < 9223372036854775808) (hb : b < 9223372036854775808) : bits .xor .i64 (a : Int) (b : Int) = ((a ^^^ b : Nat) : Int) := by
  have h1 : a ^^^ b < 9223372036854775808 := Nat.xor_lt_two_pow (n := 63) ha hb
  have e1 : a % 18446744073709551616 = a := Nat.mod_eq_of_lt (by omega)
  have e2 : b % 18446744073709551616 = b := Nat.mod_eq_of_lt (by omega)
  have h3 : bits .xor .i64 (a : Int) (b : Int) = IntKind.i64.wrap (((BitVec.ofNat 64 a ^^^ BitVec.ofNat 64 b).toNat : Nat) : Int) := by
    show IntKind.i64.wrap (((BitVec.ofInt 64 a ^^^ BitVec.ofInt 64 b).toNat : Nat) : Int) = _
    rw [BitVec.ofInt_natCast, BitVec.ofInt_natCast]
  rw [h3, BitVec.toNat_xor, BitVec.toNat_ofNat, BitVec.toNat_ofNat, show 2 ^ 64 = 18446744073709551616 from rfl, e1, e2]
  exact wrap_nat _ h1
/-- A tick's part at a level. -/
def dig (t l : Nat) : Nat := t / 64 ^ l % 64
/-- The level of a tick, as seen from another one. -/
def lvl (n t : Nat) : Nat := (Lib.bitLen (t ^^^ n) - 1) / 6
theorem lvl_le (n t : Nat) (hn : n < 2 ^ 41) (ht : t < 2 ^ 41) : lvl n t ≤ 6 := by
  have := Lib.bitLen_le (t ^^^ n) 41 (by omega) (Nat.xor_lt_two_pow ht hn)
  unfold lvl; omega

set_option maxRecDepth 100000 in
set_option maxHeartbeats 2000000 in
theorem digit_calls (t l : Nat) (h1 : t ≤ 1099511627776) (hl : l ≤ 6) (w : World) :
    Calls Try.prog 26 #[.int .i64 t, .int .i64 l] w fun e w' => e = .returned (.int .i64 (dig t l : Nat)) ∧ w' = w := by
  go_enter Try.func26, Try.ntmps26
  go_wp2
  go_ret
  refine ⟨?_, rfl⟩
  have e1 : ((t : Int) / 2 ^ (6 * l)) = ((t / 64 ^ l : Nat) : Int) := by
    rw [Int.natCast_ediv, show (2 : Int) ^ (6 * l) = ((64 ^ l : Nat) : Int) by rw [Int.natCast_pow, Int.pow_mul]; rfl]
  have h2 : t / 64 ^ l < 9223372036854775808 := Nat.lt_of_le_of_lt (Nat.div_le_self _ _) (by omega)
  have e2 : bits .and .i64 (t / 2 ^ (6 * l)) 63 = ((dig t l : Nat) : Int) := by
    rw [e1, show (63 : Int) = ((63 : Nat) : Int) from rfl, bits_and _ _ h2 (by omega)]
    congr 1
    exact Nat.and_two_pow_sub_one_eq_mod (t / 64 ^ l) 6
  rw [e2]
  rfl
theorem i64_to_u64 (n : Nat) (h : n < 9223372036854775808) : IntKind.u64.wrap (n : Int) = n := by
  unfold IntKind.wrap
  simp [IntKind.signed, IntKind.bits]
  omega
set_option maxRecDepth 100000 in
set_option maxHeartbeats 2000000 in
theorem slot_calls (n t g : Nat) (hn : n ≤ 1099511627776) (ht : t ≤ 1099511627776) (w : World) (hc : w.cell? ⟨g, 0, none⟩ = some (.int .i64 n)) :
    Calls Try.prog 24 #[.pointer (some ⟨g, 0, none⟩), .int .i64 t] w fun e w' => e = .returned (.pointer (some ⟨g, 2 + (lvl n t * 64 + dig t (lvl n t)), none⟩)) ∧ w'.os = w.os ∧ w'.tape = w.tape ∧ w'.output = w.output ∧ w'.heap = w.heap := by
  have hx := bits_xor t n (by omega) (by omega)
  have hxl : t ^^^ n < 2 ^ 41 := Nat.xor_lt_two_pow (by omega) (by omega)
  have hle := Lib.bitLen_le (t ^^^ n) 41 (by omega) hxl
  have hu := i64_to_u64 (t ^^^ n) (by omega)
  have hb := fun w => Try.bits_Len ((t ^^^ n : Nat) : Int) w (by omega) (by omega)
  go_enter Try.func24, Try.ntmps24
  go_wp2_with (first | (go_at_call 36; refine (hb _).mono ?_; rintro e w' ⟨rfl, rfl⟩) | (go_at_call 26; refine (digit_calls t (lvl n t) ht (lvl_le n t (by omega) (by omega)) _).mono ?_; rintro e w' ⟨rfl, rfl⟩))
  have e5 : max ((Lib.bitLen (t ^^^ n) : Int) - 1) 0 / 6 = ((lvl n t : Nat) : Int) := by
    unfold lvl
    omega
  rw [e5]
  have hl6 := lvl_le n t (by omega) (by omega)
  have hd : dig t (lvl n t) < 64 := Nat.mod_lt _ (by omega)
  go_region_with (go_at_call 26; refine (digit_calls t (lvl n t) ht hl6 _).mono ?_; rintro e w' ⟨rfl, rfl⟩)
  all_goals go_wp2
  all_goals go_ret
  all_goals
    refine ⟨?_, rfl, rfl, rfl, rfl⟩
    simp only [Act.put]
    rw [show 2 + lvl n t * 64 + dig t (lvl n t) = 2 + (lvl n t * 64 + dig t (lvl n t)) by omega]
    rfl

abbrev kRing : Kt := .opt false (.sl 3 (.int .i64))
abbrev kW : Kt := .pair (.int .i64) (.pair (.map (.int .i64) (.int .i64)) (.pair (.arr 7 (.arr 64 kRing)) .unit))
abbrev mW : Mk := .pr .sh (.pr (.ow .sh) (.pr (.ow (.ow (.ow .sh))) .sh))
/-- A wheel's data: now, the ticks, the rings. -/
abbrev WD : Type := Int × (Option (List (Int × Int)) × (List (List (Option (List Int))) × Unit))
def slotPf : PfSpec Try.prog where
  f := 24
  T := 64
  e := kW
  m := mW
  vals := [.int .i64]
  path := [.ad, .r, .r, .l, .ix (fun (e : WD × (Int × Unit)) => lvl e.1.1.toNat e.2.1.toNat), .ix (fun (e : WD × (Int × Unit)) => dig e.2.1.toNat (lvl e.1.1.toNat e.2.1.toNat))]
  chk := fun (e : WD × (Int × Unit)) => decide (0 ≤ e.1.1 ∧ e.1.1 ≤ 1099511627776 ∧ 0 ≤ e.2.1 ∧ e.2.1 ≤ 1099511627776)
  ok := by
    intro (x : WD) (d : Int × Unit) hchk w S S' v vs F hz hargs
    have hchk : decide (0 ≤ x.1 ∧ x.1 ≤ 1099511627776 ∧ 0 ≤ d.1 ∧ d.1 ≤ 1099511627776) = true := hchk
    simp only [decide_eq_true_eq] at hchk
    obtain ⟨h1, h2, h3, h4⟩ := hchk
    obtain ⟨g, C, Fe, hv, hF, hh, hx⟩ := hz
    obtain rfl := (List.cons.inj hv).1
    obtain ⟨F1, F2, c1, c2, _, hc, hx1, _⟩ := hx
    have hc1 : c1 = [.int .i64 x.1] := (hx1.2.resolve_left fun h => by cases h.1).2
    obtain ⟨v0, vs0, rfl, hv0, hvs0, _⟩ := hargs
    subst hvs0
    have hv0 : v0 = .int .i64 d.1 := val_int hv0
    subst hv0
    have e1 : ((x.1.toNat : Nat) : Int) = x.1 := Int.toNat_of_nonneg h1
    have e2 : ((d.1.toNat : Nat) : Int) = d.1 := Int.toNat_of_nonneg h3
    have hcell : w.cell? ⟨g, 0, none⟩ = some (.int .i64 (x.1.toNat : Nat)) := by
      rw [cell_of_block hh, e1]
      have : C.toList[0]? = some (.int .i64 x.1) := by rw [hc, hc1]; rfl
      simpa using this
    have := slot_calls x.1.toNat d.1.toNat g (by omega) (by omega) w hcell
    rw [e2] at this
    refine this.mono fun en w' hen => ?_
    obtain ⟨rfl, k1, k2, k3, k4⟩ := hen
    refine ⟨⟨k1, k2, k3, k4⟩, _, _, rfl, ?_⟩
    have hh' : w'.heap[g]? = some (.cells C 64 (0, 0)) := by rw [k4]; exact hh
    show adr w' (.ptr 64 kW) none [.pointer (some ⟨g, 0, none⟩)] (.ad :: [.r, .r, .l, .ix (lvl x.1.toNat d.1.toNat), .ix (dig d.1.toNat (lvl x.1.toNat d.1.toNat))]) = _
    simp only [adr, hh']
    refine (adr_flat w' [.r, .r, .l, .ix (lvl x.1.toNat d.1.toNat), .ix (dig d.1.toNat (lvl x.1.toNat d.1.toNat))] kW (some (g, 0)) C.toList rfl).trans ?_
    simp only [Option.map_some, foff, Kt.size]
    congr 2
    omega
end Go.Proofs.Ytlagcpfboljhnaa.L
