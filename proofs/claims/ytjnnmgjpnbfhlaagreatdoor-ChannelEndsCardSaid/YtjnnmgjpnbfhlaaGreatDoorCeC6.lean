import Derived.Test.YtjnnmgjpnbfhlaaGreatDoorCeC5
namespace Go.Proofs.YtjnnmgjpnbfhlaaGreatDoor.L.C
open Go Go.Lift
set_option linter.unusedVariables false
set_option linter.unusedSimpArgs false
set_option maxRecDepth 100000

/-! ### the document's rules of a part -/
theorem handw {h : Int} {n : Nat} (hz : (h == 0) = false) : wi h 0 (n : Int) = wi h 1 (n : Int) := by
  have : h ≠ 0 := by rw [beq_eq_false_iff_ne] at hz; exact hz
  rw [Bool.eq_iff_iff, wi_iff, wi_iff]; omega
/-! ### ports -/
def portB (n : Int) (q : PO) : Bool := wi q.1 1 n && wi q.2.1 0 1 && wi q.2.2.2.1 1 16 && (if q.2.1 == 1 then wi q.2.2.2.2.1 1 64 && (q.2.2.2.2.2.1 == 0) else if q.2.2.1 then (q.2.2.2.2.1 == 0) && (q.2.2.2.2.2.1 == 0) else (q.2.2.2.2.1 == 0) && wi q.2.2.2.2.2.1 0 1099511627775)
theorem d156_eq (k : Nat) (q : PO) (n : Int) : d44 k (q, (n, ())) = some ((portB n q, ()), ()) := by
  have kind : wi q.2.1 0 1 = (q.2.1 == 1 || q.2.1 == 0) := by
    rw [Bool.eq_iff_iff, wi_iff]; simp; omega
  have ne : (q.2.1 != 0) = !(q.2.1 == 0) := rfl
  simp only [d44, lt, shr, w173, Option.bind_some, portB, kind, ne, d44_K2, d44_K3, d44_K1]
  cases h1 : (q.2.1 == 1) with
  | true =>
    cases wi q.2.2.2.2.1 1 64 <;> cases (q.2.2.2.2.2.1 == 0) <;> cases wi q.1 1 n <;> cases wi q.2.2.2.1 1 16 <;> simp
  | false =>
    cases h0 : (q.2.1 == 0) with
    | false => simp
    | true =>
      cases q.2.2.1 <;> cases wi q.2.2.2.2.2.1 0 1099511627775 <;> cases (q.2.2.2.2.2.1 == 0) <;> cases (q.2.2.2.2.1 == 0) <;> cases wi q.1 1 n <;> cases wi q.2.2.2.1 1 16 <;> simp
end Go.Proofs.YtjnnmgjpnbfhlaaGreatDoor.L.C
