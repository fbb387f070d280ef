import Derived.Test.YtcbhkeinmdobhaaDoorB1
namespace Go.Proofs.YtcbhkeinmdobhaaDoor
open Go.ChangeShapes Go.WideShapes Go.ChangeAt Go.RowKit
set_option linter.unusedVariables false
set_option linter.unusedSimpArgs false

def regOk (named : Bool) (r : Int) : Bool := if named then decide (r < 16) else decide (r = 0)
def hasB (l : List UInt8) (ch : Int) : Bool := l.any fun x => decide ((x.toNat : Int) = ch)
def legalS (shp : List UInt8) (a b c n : Int) : Bool := regOk (hasB shp 97) a && (regOk (hasB shp 98) b && (regOk (hasB shp 99) c && (hasB shp 110 || (hasB shp 112 || decide (n = 0)))))
abbrev ins (op a b c n : Int) : Value := .agg #[.int .u8 op, .int .u8 a, .int .u8 b, .int .u8 c, .int .i32 n]

theorem field_a (g : Nat) (w : World) : Calls Tryd.prog 32 #[.pointer (some ⟨g, 0, none⟩), .int .u8 97] w fun e w' => e = .returned (.pointer (some ⟨g, 1, none⟩)) ∧ w = w' := by
  go_enter Tryd.func32, Tryd.ntmps32
  go_wp2
  go_ret
  exact ⟨rfl, rfl⟩
theorem field_b (g : Nat) (w : World) : Calls Tryd.prog 32 #[.pointer (some ⟨g, 0, none⟩), .int .u8 98] w fun e w' => e = .returned (.pointer (some ⟨g, 2, none⟩)) ∧ w = w' := by
  go_enter Tryd.func32, Tryd.ntmps32
  go_wp2
  go_ret
  exact ⟨rfl, rfl⟩
theorem field_c (g : Nat) (w : World) : Calls Tryd.prog 32 #[.pointer (some ⟨g, 0, none⟩), .int .u8 99] w fun e w' => e = .returned (.pointer (some ⟨g, 3, none⟩)) ∧ w = w' := by
  go_enter Tryd.func32, Tryd.ntmps32
  go_wp2
  go_ret
  exact ⟨rfl, rfl⟩
theorem field_n (g : Nat) (w : World) : Calls Tryd.prog 32 #[.pointer (some ⟨g, 0, none⟩), .int .u8 110] w fun e w' => e = .returned (.pointer none) ∧ w = w' := by
  go_enter Tryd.func32, Tryd.ntmps32
  go_wp2
  go_ret
  exact ⟨rfl, rfl⟩
theorem field_p (g : Nat) (w : World) : Calls Tryd.prog 32 #[.pointer (some ⟨g, 0, none⟩), .int .u8 112] w fun e w' => e = .returned (.pointer none) ∧ w = w' := by
  go_enter Tryd.func32, Tryd.ntmps32
  go_wp2
  go_ret
  exact ⟨rfl, rfl⟩

set_option maxHeartbeats 1000000 in
theorem legal_none (i : Nat) (a b c n : Int) (w : World) (h1 : 1 ≤ i) (h2 : i ≤ 27) (hs : shapeB i = ⟨#[]⟩) (ha : 0 ≤ a) (hb : 0 ≤ b) (hc : 0 ≤ c) (hn : w.cell? ⟨0, i * 2 + 1, none⟩ = some (.string (shapeB i))) (hz : 0 < w.heap.size) :
    Calls Tryd.prog 25 #[ins i a b c n] w fun e w' => e = .returned (.bool (legalS [] a b c n)) ∧ Below w.heap.size w w' := by
  have hn' : (w.alloc (.cells #[.int .u8 i, .int .u8 a, .int .u8 b, .int .u8 c, .int .i32 n] 26)).cell? ⟨0, i * 2 + 1, none⟩ = some (.string (shapeB i)) := by
    rw [(((Below.refl w.heap.size w).alloc (Nat.le_refl _) _).cell (p := ⟨0, i * 2 + 1, none⟩) hz)]; exact hn
  have HS := Lib.hid hs
  clear hs hn
  all_goals
    go_enter Tryd.func25, Tryd.ntmps25
    go_wp2_with (first | (go_at_call 13; refine (shape_yes i _ h1 h2 hn').mono ?_; rintro e w' ⟨rfl, rfl⟩; rw [HS.out]) | (go_at_call_of 32 (Value.int .u8 97); refine (field_a _ _).mono ?_; rintro e w' ⟨rfl, rfl⟩)| (go_at_call_of 32 (Value.int .u8 98); refine (field_b _ _).mono ?_; rintro e w' ⟨rfl, rfl⟩)| (go_at_call_of 32 (Value.int .u8 99); refine (field_c _ _).mono ?_; rintro e w' ⟨rfl, rfl⟩)| (go_at_call_of 32 (Value.int .u8 110); refine (field_n _ _).mono ?_; rintro e w' ⟨rfl, rfl⟩)| (go_at_call_of 32 (Value.int .u8 112); refine (field_p _ _).mono ?_; rintro e w' ⟨rfl, rfl⟩))
  all_goals
    refine wp_loop_rounds 1 ?_
    repeat any_goals (rw [rounds_succ]; go_wp2_with (first | (go_at_call 13; refine (shape_yes i _ h1 h2 hn').mono ?_; rintro e w' ⟨rfl, rfl⟩; rw [HS.out]) | (go_at_call_of 32 (Value.int .u8 97); refine (field_a _ _).mono ?_; rintro e w' ⟨rfl, rfl⟩)| (go_at_call_of 32 (Value.int .u8 98); refine (field_b _ _).mono ?_; rintro e w' ⟨rfl, rfl⟩)| (go_at_call_of 32 (Value.int .u8 99); refine (field_c _ _).mono ?_; rintro e w' ⟨rfl, rfl⟩)| (go_at_call_of 32 (Value.int .u8 110); refine (field_n _ _).mono ?_; rintro e w' ⟨rfl, rfl⟩)| (go_at_call_of 32 (Value.int .u8 112); refine (field_p _ _).mono ?_; rintro e w' ⟨rfl, rfl⟩)))
  all_goals go_ret
  all_goals exact ⟨by first | (simp_all [legalS, regOk, hasB]; done) | (simp_all [legalS, regOk, hasB]; omega), by go_grown⟩
set_option maxHeartbeats 1000000 in
theorem legal_an (i : Nat) (a b c n : Int) (w : World) (h1 : 1 ≤ i) (h2 : i ≤ 27) (hs : shapeB i = ⟨#[97, 110]⟩) (ha : 0 ≤ a) (hb : 0 ≤ b) (hc : 0 ≤ c) (hn : w.cell? ⟨0, i * 2 + 1, none⟩ = some (.string (shapeB i))) (hz : 0 < w.heap.size) :
    Calls Tryd.prog 25 #[ins i a b c n] w fun e w' => e = .returned (.bool (legalS [97, 110] a b c n)) ∧ Below w.heap.size w w' := by
  have hn' : (w.alloc (.cells #[.int .u8 i, .int .u8 a, .int .u8 b, .int .u8 c, .int .i32 n] 26)).cell? ⟨0, i * 2 + 1, none⟩ = some (.string (shapeB i)) := by
    rw [(((Below.refl w.heap.size w).alloc (Nat.le_refl _) _).cell (p := ⟨0, i * 2 + 1, none⟩) hz)]; exact hn
  have HS := Lib.hid hs
  clear hs hn
  have E0 : ((⟨#[97, 110]⟩ : ByteArray)[0]'(by decide)).toNat = 97 := rfl
  have E1 : ((⟨#[97, 110]⟩ : ByteArray)[1]'(by decide)).toNat = 110 := rfl
  by_cases qa : a < 16
  all_goals
    go_enter Tryd.func25, Tryd.ntmps25
    go_wp2_with (first | (go_at_call 13; refine (shape_yes i _ h1 h2 hn').mono ?_; rintro e w' ⟨rfl, rfl⟩; rw [HS.out]) | (go_at_call_of 32 (Value.int .u8 97); refine (field_a _ _).mono ?_; rintro e w' ⟨rfl, rfl⟩)| (go_at_call_of 32 (Value.int .u8 98); refine (field_b _ _).mono ?_; rintro e w' ⟨rfl, rfl⟩)| (go_at_call_of 32 (Value.int .u8 99); refine (field_c _ _).mono ?_; rintro e w' ⟨rfl, rfl⟩)| (go_at_call_of 32 (Value.int .u8 110); refine (field_n _ _).mono ?_; rintro e w' ⟨rfl, rfl⟩)| (go_at_call_of 32 (Value.int .u8 112); refine (field_p _ _).mono ?_; rintro e w' ⟨rfl, rfl⟩))
  all_goals
    refine wp_loop_rounds 3 ?_
    repeat any_goals (rw [rounds_succ]; go_wp2_with (first | (go_at_call 13; refine (shape_yes i _ h1 h2 hn').mono ?_; rintro e w' ⟨rfl, rfl⟩; rw [HS.out]) | (go_at_call_of 32 (Value.int .u8 97); refine (field_a _ _).mono ?_; rintro e w' ⟨rfl, rfl⟩)| (go_at_call_of 32 (Value.int .u8 98); refine (field_b _ _).mono ?_; rintro e w' ⟨rfl, rfl⟩)| (go_at_call_of 32 (Value.int .u8 99); refine (field_c _ _).mono ?_; rintro e w' ⟨rfl, rfl⟩)| (go_at_call_of 32 (Value.int .u8 110); refine (field_n _ _).mono ?_; rintro e w' ⟨rfl, rfl⟩)| (go_at_call_of 32 (Value.int .u8 112); refine (field_p _ _).mono ?_; rintro e w' ⟨rfl, rfl⟩)))
  all_goals go_ret
  all_goals exact ⟨by first | (simp_all [legalS, regOk, hasB]; done) | (simp_all [legalS, regOk, hasB]; omega), by go_grown⟩
set_option maxHeartbeats 1000000 in
theorem legal_ab (i : Nat) (a b c n : Int) (w : World) (h1 : 1 ≤ i) (h2 : i ≤ 27) (hs : shapeB i = ⟨#[97, 98]⟩) (ha : 0 ≤ a) (hb : 0 ≤ b) (hc : 0 ≤ c) (hn : w.cell? ⟨0, i * 2 + 1, none⟩ = some (.string (shapeB i))) (hz : 0 < w.heap.size) :
    Calls Tryd.prog 25 #[ins i a b c n] w fun e w' => e = .returned (.bool (legalS [97, 98] a b c n)) ∧ Below w.heap.size w w' := by
  have hn' : (w.alloc (.cells #[.int .u8 i, .int .u8 a, .int .u8 b, .int .u8 c, .int .i32 n] 26)).cell? ⟨0, i * 2 + 1, none⟩ = some (.string (shapeB i)) := by
    rw [(((Below.refl w.heap.size w).alloc (Nat.le_refl _) _).cell (p := ⟨0, i * 2 + 1, none⟩) hz)]; exact hn
  have HS := Lib.hid hs
  clear hs hn
  have E0 : ((⟨#[97, 98]⟩ : ByteArray)[0]'(by decide)).toNat = 97 := rfl
  have E1 : ((⟨#[97, 98]⟩ : ByteArray)[1]'(by decide)).toNat = 98 := rfl
  by_cases qa : a < 16 <;> by_cases qb : b < 16
  all_goals
    go_enter Tryd.func25, Tryd.ntmps25
    go_wp2_with (first | (go_at_call 13; refine (shape_yes i _ h1 h2 hn').mono ?_; rintro e w' ⟨rfl, rfl⟩; rw [HS.out]) | (go_at_call_of 32 (Value.int .u8 97); refine (field_a _ _).mono ?_; rintro e w' ⟨rfl, rfl⟩)| (go_at_call_of 32 (Value.int .u8 98); refine (field_b _ _).mono ?_; rintro e w' ⟨rfl, rfl⟩)| (go_at_call_of 32 (Value.int .u8 99); refine (field_c _ _).mono ?_; rintro e w' ⟨rfl, rfl⟩)| (go_at_call_of 32 (Value.int .u8 110); refine (field_n _ _).mono ?_; rintro e w' ⟨rfl, rfl⟩)| (go_at_call_of 32 (Value.int .u8 112); refine (field_p _ _).mono ?_; rintro e w' ⟨rfl, rfl⟩))
  all_goals
    refine wp_loop_rounds 3 ?_
    repeat any_goals (rw [rounds_succ]; go_wp2_with (first | (go_at_call 13; refine (shape_yes i _ h1 h2 hn').mono ?_; rintro e w' ⟨rfl, rfl⟩; rw [HS.out]) | (go_at_call_of 32 (Value.int .u8 97); refine (field_a _ _).mono ?_; rintro e w' ⟨rfl, rfl⟩)| (go_at_call_of 32 (Value.int .u8 98); refine (field_b _ _).mono ?_; rintro e w' ⟨rfl, rfl⟩)| (go_at_call_of 32 (Value.int .u8 99); refine (field_c _ _).mono ?_; rintro e w' ⟨rfl, rfl⟩)| (go_at_call_of 32 (Value.int .u8 110); refine (field_n _ _).mono ?_; rintro e w' ⟨rfl, rfl⟩)| (go_at_call_of 32 (Value.int .u8 112); refine (field_p _ _).mono ?_; rintro e w' ⟨rfl, rfl⟩)))
  all_goals go_ret
  all_goals exact ⟨by first | (simp_all [legalS, regOk, hasB]; done) | (simp_all [legalS, regOk, hasB]; omega), by go_grown⟩
set_option maxHeartbeats 1000000 in
theorem legal_abn (i : Nat) (a b c n : Int) (w : World) (h1 : 1 ≤ i) (h2 : i ≤ 27) (hs : shapeB i = ⟨#[97, 98, 110]⟩) (ha : 0 ≤ a) (hb : 0 ≤ b) (hc : 0 ≤ c) (hn : w.cell? ⟨0, i * 2 + 1, none⟩ = some (.string (shapeB i))) (hz : 0 < w.heap.size) :
    Calls Tryd.prog 25 #[ins i a b c n] w fun e w' => e = .returned (.bool (legalS [97, 98, 110] a b c n)) ∧ Below w.heap.size w w' := by
  have hn' : (w.alloc (.cells #[.int .u8 i, .int .u8 a, .int .u8 b, .int .u8 c, .int .i32 n] 26)).cell? ⟨0, i * 2 + 1, none⟩ = some (.string (shapeB i)) := by
    rw [(((Below.refl w.heap.size w).alloc (Nat.le_refl _) _).cell (p := ⟨0, i * 2 + 1, none⟩) hz)]; exact hn
  have HS := Lib.hid hs
  clear hs hn
  have E0 : ((⟨#[97, 98, 110]⟩ : ByteArray)[0]'(by decide)).toNat = 97 := rfl
  have E1 : ((⟨#[97, 98, 110]⟩ : ByteArray)[1]'(by decide)).toNat = 98 := rfl
  have E2 : ((⟨#[97, 98, 110]⟩ : ByteArray)[2]'(by decide)).toNat = 110 := rfl
  by_cases qa : a < 16 <;> by_cases qb : b < 16
  all_goals
    go_enter Tryd.func25, Tryd.ntmps25
    go_wp2_with (first | (go_at_call 13; refine (shape_yes i _ h1 h2 hn').mono ?_; rintro e w' ⟨rfl, rfl⟩; rw [HS.out]) | (go_at_call_of 32 (Value.int .u8 97); refine (field_a _ _).mono ?_; rintro e w' ⟨rfl, rfl⟩)| (go_at_call_of 32 (Value.int .u8 98); refine (field_b _ _).mono ?_; rintro e w' ⟨rfl, rfl⟩)| (go_at_call_of 32 (Value.int .u8 99); refine (field_c _ _).mono ?_; rintro e w' ⟨rfl, rfl⟩)| (go_at_call_of 32 (Value.int .u8 110); refine (field_n _ _).mono ?_; rintro e w' ⟨rfl, rfl⟩)| (go_at_call_of 32 (Value.int .u8 112); refine (field_p _ _).mono ?_; rintro e w' ⟨rfl, rfl⟩))
  all_goals
    refine wp_loop_rounds 4 ?_
    repeat any_goals (rw [rounds_succ]; go_wp2_with (first | (go_at_call 13; refine (shape_yes i _ h1 h2 hn').mono ?_; rintro e w' ⟨rfl, rfl⟩; rw [HS.out]) | (go_at_call_of 32 (Value.int .u8 97); refine (field_a _ _).mono ?_; rintro e w' ⟨rfl, rfl⟩)| (go_at_call_of 32 (Value.int .u8 98); refine (field_b _ _).mono ?_; rintro e w' ⟨rfl, rfl⟩)| (go_at_call_of 32 (Value.int .u8 99); refine (field_c _ _).mono ?_; rintro e w' ⟨rfl, rfl⟩)| (go_at_call_of 32 (Value.int .u8 110); refine (field_n _ _).mono ?_; rintro e w' ⟨rfl, rfl⟩)| (go_at_call_of 32 (Value.int .u8 112); refine (field_p _ _).mono ?_; rintro e w' ⟨rfl, rfl⟩)))
  all_goals go_ret
  all_goals exact ⟨by first | (simp_all [legalS, regOk, hasB]; done) | (simp_all [legalS, regOk, hasB]; omega), by go_grown⟩
set_option maxHeartbeats 1000000 in
theorem legal_abc (i : Nat) (a b c n : Int) (w : World) (h1 : 1 ≤ i) (h2 : i ≤ 27) (hs : shapeB i = ⟨#[97, 98, 99]⟩) (ha : 0 ≤ a) (hb : 0 ≤ b) (hc : 0 ≤ c) (hn : w.cell? ⟨0, i * 2 + 1, none⟩ = some (.string (shapeB i))) (hz : 0 < w.heap.size) :
    Calls Tryd.prog 25 #[ins i a b c n] w fun e w' => e = .returned (.bool (legalS [97, 98, 99] a b c n)) ∧ Below w.heap.size w w' := by
  have hn' : (w.alloc (.cells #[.int .u8 i, .int .u8 a, .int .u8 b, .int .u8 c, .int .i32 n] 26)).cell? ⟨0, i * 2 + 1, none⟩ = some (.string (shapeB i)) := by
    rw [(((Below.refl w.heap.size w).alloc (Nat.le_refl _) _).cell (p := ⟨0, i * 2 + 1, none⟩) hz)]; exact hn
  have HS := Lib.hid hs
  clear hs hn
  have E0 : ((⟨#[97, 98, 99]⟩ : ByteArray)[0]'(by decide)).toNat = 97 := rfl
  have E1 : ((⟨#[97, 98, 99]⟩ : ByteArray)[1]'(by decide)).toNat = 98 := rfl
  have E2 : ((⟨#[97, 98, 99]⟩ : ByteArray)[2]'(by decide)).toNat = 99 := rfl
  by_cases qa : a < 16 <;> by_cases qb : b < 16 <;> by_cases qc : c < 16
  all_goals
    go_enter Tryd.func25, Tryd.ntmps25
    go_wp2_with (first | (go_at_call 13; refine (shape_yes i _ h1 h2 hn').mono ?_; rintro e w' ⟨rfl, rfl⟩; rw [HS.out]) | (go_at_call_of 32 (Value.int .u8 97); refine (field_a _ _).mono ?_; rintro e w' ⟨rfl, rfl⟩)| (go_at_call_of 32 (Value.int .u8 98); refine (field_b _ _).mono ?_; rintro e w' ⟨rfl, rfl⟩)| (go_at_call_of 32 (Value.int .u8 99); refine (field_c _ _).mono ?_; rintro e w' ⟨rfl, rfl⟩)| (go_at_call_of 32 (Value.int .u8 110); refine (field_n _ _).mono ?_; rintro e w' ⟨rfl, rfl⟩)| (go_at_call_of 32 (Value.int .u8 112); refine (field_p _ _).mono ?_; rintro e w' ⟨rfl, rfl⟩))
  all_goals
    refine wp_loop_rounds 4 ?_
    repeat any_goals (rw [rounds_succ]; go_wp2_with (first | (go_at_call 13; refine (shape_yes i _ h1 h2 hn').mono ?_; rintro e w' ⟨rfl, rfl⟩; rw [HS.out]) | (go_at_call_of 32 (Value.int .u8 97); refine (field_a _ _).mono ?_; rintro e w' ⟨rfl, rfl⟩)| (go_at_call_of 32 (Value.int .u8 98); refine (field_b _ _).mono ?_; rintro e w' ⟨rfl, rfl⟩)| (go_at_call_of 32 (Value.int .u8 99); refine (field_c _ _).mono ?_; rintro e w' ⟨rfl, rfl⟩)| (go_at_call_of 32 (Value.int .u8 110); refine (field_n _ _).mono ?_; rintro e w' ⟨rfl, rfl⟩)| (go_at_call_of 32 (Value.int .u8 112); refine (field_p _ _).mono ?_; rintro e w' ⟨rfl, rfl⟩)))
  all_goals go_ret
  all_goals exact ⟨by first | (simp_all [legalS, regOk, hasB]; done) | (simp_all [legalS, regOk, hasB]; omega), by go_grown⟩
set_option maxHeartbeats 1000000 in
theorem legal_p (i : Nat) (a b c n : Int) (w : World) (h1 : 1 ≤ i) (h2 : i ≤ 27) (hs : shapeB i = ⟨#[112]⟩) (ha : 0 ≤ a) (hb : 0 ≤ b) (hc : 0 ≤ c) (hn : w.cell? ⟨0, i * 2 + 1, none⟩ = some (.string (shapeB i))) (hz : 0 < w.heap.size) :
    Calls Tryd.prog 25 #[ins i a b c n] w fun e w' => e = .returned (.bool (legalS [112] a b c n)) ∧ Below w.heap.size w w' := by
  have hn' : (w.alloc (.cells #[.int .u8 i, .int .u8 a, .int .u8 b, .int .u8 c, .int .i32 n] 26)).cell? ⟨0, i * 2 + 1, none⟩ = some (.string (shapeB i)) := by
    rw [(((Below.refl w.heap.size w).alloc (Nat.le_refl _) _).cell (p := ⟨0, i * 2 + 1, none⟩) hz)]; exact hn
  have HS := Lib.hid hs
  clear hs hn
  have E0 : ((⟨#[112]⟩ : ByteArray)[0]'(by decide)).toNat = 112 := rfl
  all_goals
    go_enter Tryd.func25, Tryd.ntmps25
    go_wp2_with (first | (go_at_call 13; refine (shape_yes i _ h1 h2 hn').mono ?_; rintro e w' ⟨rfl, rfl⟩; rw [HS.out]) | (go_at_call_of 32 (Value.int .u8 97); refine (field_a _ _).mono ?_; rintro e w' ⟨rfl, rfl⟩)| (go_at_call_of 32 (Value.int .u8 98); refine (field_b _ _).mono ?_; rintro e w' ⟨rfl, rfl⟩)| (go_at_call_of 32 (Value.int .u8 99); refine (field_c _ _).mono ?_; rintro e w' ⟨rfl, rfl⟩)| (go_at_call_of 32 (Value.int .u8 110); refine (field_n _ _).mono ?_; rintro e w' ⟨rfl, rfl⟩)| (go_at_call_of 32 (Value.int .u8 112); refine (field_p _ _).mono ?_; rintro e w' ⟨rfl, rfl⟩))
  all_goals
    refine wp_loop_rounds 2 ?_
    repeat any_goals (rw [rounds_succ]; go_wp2_with (first | (go_at_call 13; refine (shape_yes i _ h1 h2 hn').mono ?_; rintro e w' ⟨rfl, rfl⟩; rw [HS.out]) | (go_at_call_of 32 (Value.int .u8 97); refine (field_a _ _).mono ?_; rintro e w' ⟨rfl, rfl⟩)| (go_at_call_of 32 (Value.int .u8 98); refine (field_b _ _).mono ?_; rintro e w' ⟨rfl, rfl⟩)| (go_at_call_of 32 (Value.int .u8 99); refine (field_c _ _).mono ?_; rintro e w' ⟨rfl, rfl⟩)| (go_at_call_of 32 (Value.int .u8 110); refine (field_n _ _).mono ?_; rintro e w' ⟨rfl, rfl⟩)| (go_at_call_of 32 (Value.int .u8 112); refine (field_p _ _).mono ?_; rintro e w' ⟨rfl, rfl⟩)))
  all_goals go_ret
  all_goals exact ⟨by first | (simp_all [legalS, regOk, hasB]; done) | (simp_all [legalS, regOk, hasB]; omega), by go_grown⟩
set_option maxHeartbeats 1000000 in
theorem legal_ap (i : Nat) (a b c n : Int) (w : World) (h1 : 1 ≤ i) (h2 : i ≤ 27) (hs : shapeB i = ⟨#[97, 112]⟩) (ha : 0 ≤ a) (hb : 0 ≤ b) (hc : 0 ≤ c) (hn : w.cell? ⟨0, i * 2 + 1, none⟩ = some (.string (shapeB i))) (hz : 0 < w.heap.size) :
    Calls Tryd.prog 25 #[ins i a b c n] w fun e w' => e = .returned (.bool (legalS [97, 112] a b c n)) ∧ Below w.heap.size w w' := by
  have hn' : (w.alloc (.cells #[.int .u8 i, .int .u8 a, .int .u8 b, .int .u8 c, .int .i32 n] 26)).cell? ⟨0, i * 2 + 1, none⟩ = some (.string (shapeB i)) := by
    rw [(((Below.refl w.heap.size w).alloc (Nat.le_refl _) _).cell (p := ⟨0, i * 2 + 1, none⟩) hz)]; exact hn
  have HS := Lib.hid hs
  clear hs hn
  have E0 : ((⟨#[97, 112]⟩ : ByteArray)[0]'(by decide)).toNat = 97 := rfl
  have E1 : ((⟨#[97, 112]⟩ : ByteArray)[1]'(by decide)).toNat = 112 := rfl
  by_cases qa : a < 16
  all_goals
    go_enter Tryd.func25, Tryd.ntmps25
    go_wp2_with (first | (go_at_call 13; refine (shape_yes i _ h1 h2 hn').mono ?_; rintro e w' ⟨rfl, rfl⟩; rw [HS.out]) | (go_at_call_of 32 (Value.int .u8 97); refine (field_a _ _).mono ?_; rintro e w' ⟨rfl, rfl⟩)| (go_at_call_of 32 (Value.int .u8 98); refine (field_b _ _).mono ?_; rintro e w' ⟨rfl, rfl⟩)| (go_at_call_of 32 (Value.int .u8 99); refine (field_c _ _).mono ?_; rintro e w' ⟨rfl, rfl⟩)| (go_at_call_of 32 (Value.int .u8 110); refine (field_n _ _).mono ?_; rintro e w' ⟨rfl, rfl⟩)| (go_at_call_of 32 (Value.int .u8 112); refine (field_p _ _).mono ?_; rintro e w' ⟨rfl, rfl⟩))
  all_goals
    refine wp_loop_rounds 3 ?_
    repeat any_goals (rw [rounds_succ]; go_wp2_with (first | (go_at_call 13; refine (shape_yes i _ h1 h2 hn').mono ?_; rintro e w' ⟨rfl, rfl⟩; rw [HS.out]) | (go_at_call_of 32 (Value.int .u8 97); refine (field_a _ _).mono ?_; rintro e w' ⟨rfl, rfl⟩)| (go_at_call_of 32 (Value.int .u8 98); refine (field_b _ _).mono ?_; rintro e w' ⟨rfl, rfl⟩)| (go_at_call_of 32 (Value.int .u8 99); refine (field_c _ _).mono ?_; rintro e w' ⟨rfl, rfl⟩)| (go_at_call_of 32 (Value.int .u8 110); refine (field_n _ _).mono ?_; rintro e w' ⟨rfl, rfl⟩)| (go_at_call_of 32 (Value.int .u8 112); refine (field_p _ _).mono ?_; rintro e w' ⟨rfl, rfl⟩)))
  all_goals go_ret
  all_goals exact ⟨by first | (simp_all [legalS, regOk, hasB]; done) | (simp_all [legalS, regOk, hasB]; omega), by go_grown⟩
set_option maxHeartbeats 1000000 in
theorem legal_a (i : Nat) (a b c n : Int) (w : World) (h1 : 1 ≤ i) (h2 : i ≤ 27) (hs : shapeB i = ⟨#[97]⟩) (ha : 0 ≤ a) (hb : 0 ≤ b) (hc : 0 ≤ c) (hn : w.cell? ⟨0, i * 2 + 1, none⟩ = some (.string (shapeB i))) (hz : 0 < w.heap.size) :
    Calls Tryd.prog 25 #[ins i a b c n] w fun e w' => e = .returned (.bool (legalS [97] a b c n)) ∧ Below w.heap.size w w' := by
  have hn' : (w.alloc (.cells #[.int .u8 i, .int .u8 a, .int .u8 b, .int .u8 c, .int .i32 n] 26)).cell? ⟨0, i * 2 + 1, none⟩ = some (.string (shapeB i)) := by
    rw [(((Below.refl w.heap.size w).alloc (Nat.le_refl _) _).cell (p := ⟨0, i * 2 + 1, none⟩) hz)]; exact hn
  have HS := Lib.hid hs
  clear hs hn
  have E0 : ((⟨#[97]⟩ : ByteArray)[0]'(by decide)).toNat = 97 := rfl
  by_cases qa : a < 16
  all_goals
    go_enter Tryd.func25, Tryd.ntmps25
    go_wp2_with (first | (go_at_call 13; refine (shape_yes i _ h1 h2 hn').mono ?_; rintro e w' ⟨rfl, rfl⟩; rw [HS.out]) | (go_at_call_of 32 (Value.int .u8 97); refine (field_a _ _).mono ?_; rintro e w' ⟨rfl, rfl⟩)| (go_at_call_of 32 (Value.int .u8 98); refine (field_b _ _).mono ?_; rintro e w' ⟨rfl, rfl⟩)| (go_at_call_of 32 (Value.int .u8 99); refine (field_c _ _).mono ?_; rintro e w' ⟨rfl, rfl⟩)| (go_at_call_of 32 (Value.int .u8 110); refine (field_n _ _).mono ?_; rintro e w' ⟨rfl, rfl⟩)| (go_at_call_of 32 (Value.int .u8 112); refine (field_p _ _).mono ?_; rintro e w' ⟨rfl, rfl⟩))
  all_goals
    refine wp_loop_rounds 2 ?_
    repeat any_goals (rw [rounds_succ]; go_wp2_with (first | (go_at_call 13; refine (shape_yes i _ h1 h2 hn').mono ?_; rintro e w' ⟨rfl, rfl⟩; rw [HS.out]) | (go_at_call_of 32 (Value.int .u8 97); refine (field_a _ _).mono ?_; rintro e w' ⟨rfl, rfl⟩)| (go_at_call_of 32 (Value.int .u8 98); refine (field_b _ _).mono ?_; rintro e w' ⟨rfl, rfl⟩)| (go_at_call_of 32 (Value.int .u8 99); refine (field_c _ _).mono ?_; rintro e w' ⟨rfl, rfl⟩)| (go_at_call_of 32 (Value.int .u8 110); refine (field_n _ _).mono ?_; rintro e w' ⟨rfl, rfl⟩)| (go_at_call_of 32 (Value.int .u8 112); refine (field_p _ _).mono ?_; rintro e w' ⟨rfl, rfl⟩)))
  all_goals go_ret
  all_goals exact ⟨by first | (simp_all [legalS, regOk, hasB]; done) | (simp_all [legalS, regOk, hasB]; omega), by go_grown⟩
set_option maxHeartbeats 1000000 in
theorem legal_n (i : Nat) (a b c n : Int) (w : World) (h1 : 1 ≤ i) (h2 : i ≤ 27) (hs : shapeB i = ⟨#[110]⟩) (ha : 0 ≤ a) (hb : 0 ≤ b) (hc : 0 ≤ c) (hn : w.cell? ⟨0, i * 2 + 1, none⟩ = some (.string (shapeB i))) (hz : 0 < w.heap.size) :
    Calls Tryd.prog 25 #[ins i a b c n] w fun e w' => e = .returned (.bool (legalS [110] a b c n)) ∧ Below w.heap.size w w' := by
  have hn' : (w.alloc (.cells #[.int .u8 i, .int .u8 a, .int .u8 b, .int .u8 c, .int .i32 n] 26)).cell? ⟨0, i * 2 + 1, none⟩ = some (.string (shapeB i)) := by
    rw [(((Below.refl w.heap.size w).alloc (Nat.le_refl _) _).cell (p := ⟨0, i * 2 + 1, none⟩) hz)]; exact hn
  have HS := Lib.hid hs
  clear hs hn
  have E0 : ((⟨#[110]⟩ : ByteArray)[0]'(by decide)).toNat = 110 := rfl
  all_goals
    go_enter Tryd.func25, Tryd.ntmps25
    go_wp2_with (first | (go_at_call 13; refine (shape_yes i _ h1 h2 hn').mono ?_; rintro e w' ⟨rfl, rfl⟩; rw [HS.out]) | (go_at_call_of 32 (Value.int .u8 97); refine (field_a _ _).mono ?_; rintro e w' ⟨rfl, rfl⟩)| (go_at_call_of 32 (Value.int .u8 98); refine (field_b _ _).mono ?_; rintro e w' ⟨rfl, rfl⟩)| (go_at_call_of 32 (Value.int .u8 99); refine (field_c _ _).mono ?_; rintro e w' ⟨rfl, rfl⟩)| (go_at_call_of 32 (Value.int .u8 110); refine (field_n _ _).mono ?_; rintro e w' ⟨rfl, rfl⟩)| (go_at_call_of 32 (Value.int .u8 112); refine (field_p _ _).mono ?_; rintro e w' ⟨rfl, rfl⟩))
  all_goals
    refine wp_loop_rounds 2 ?_
    repeat any_goals (rw [rounds_succ]; go_wp2_with (first | (go_at_call 13; refine (shape_yes i _ h1 h2 hn').mono ?_; rintro e w' ⟨rfl, rfl⟩; rw [HS.out]) | (go_at_call_of 32 (Value.int .u8 97); refine (field_a _ _).mono ?_; rintro e w' ⟨rfl, rfl⟩)| (go_at_call_of 32 (Value.int .u8 98); refine (field_b _ _).mono ?_; rintro e w' ⟨rfl, rfl⟩)| (go_at_call_of 32 (Value.int .u8 99); refine (field_c _ _).mono ?_; rintro e w' ⟨rfl, rfl⟩)| (go_at_call_of 32 (Value.int .u8 110); refine (field_n _ _).mono ?_; rintro e w' ⟨rfl, rfl⟩)| (go_at_call_of 32 (Value.int .u8 112); refine (field_p _ _).mono ?_; rintro e w' ⟨rfl, rfl⟩)))
  all_goals go_ret
  all_goals exact ⟨by first | (simp_all [legalS, regOk, hasB]; done) | (simp_all [legalS, regOk, hasB]; omega), by go_grown⟩
end Go.Proofs.YtcbhkeinmdobhaaDoor
