import Derived.Test.YtcbhkeinmdobhaaDoorNm
import Derived.Test.YtcbhkeinmdobhaaDoorOpn
namespace Go.Proofs.YtcbhkeinmdobhaaDoor
open Go.ChangeShapes Go.WideShapes Go.ChangeAt Go.RowKit
set_option linter.unusedVariables false
set_option linter.unusedSimpArgs false

theorem namesApartL : ((List.range 28).all fun i => (List.range 28).all fun j => i == j || decide ((nameB i).toList ≠ (nameB j).toList)) = true := by kernel_rfl
theorem name_neL (i j : Nat) (h2 : i ≤ 27) (h4 : j ≤ 27) (h : i ≠ j) : ¬ (nameB i).toList = (nameB j).toList := by
  have q := List.all_eq_true.1 (List.all_eq_true.1 namesApartL i (List.mem_range.2 (by omega))) j (List.mem_range.2 (by omega))
  have hij : (i == j) = false := by simpa using h
  rw [hij, Bool.false_or, decide_eq_true_eq] at q
  exact q
set_option maxRecDepth 20000 in
theorem names_yy (i j : Nat) (w : World) (T : Tabs w) (h1 : 1 ≤ i) (h2 : i ≤ 27) (h3 : 1 ≤ j) (h4 : j ≤ 27) (h : i ≠ j) :
    Calls Tryd.prog 5 #[.int .u8 i, .int .u8 j] w fun e w' => e = .returned (.bool true) ∧ Below w.heap.size w w' := by
  have hne := name_neL i j h2 h4 h
  have hij : ((i : Int) == (j : Int)) = false := by rw [beq_eq_false_iff_ne]; omega
  have c1 := (T.tab i (by omega)).1
  have c2 := (T.tab j (by omega)).1
  go_enter Tryd.func5, Tryd.ntmps5
  go_wp2_with (first | (go_at_call_of 11 (Value.int .u8 (i : Nat)); refine (name_yes i _ h1 h2 c1).mono ?_; rintro e w1 ⟨rfl, rfl⟩) | (go_at_call_of 11 (Value.int .u8 (j : Nat)); refine (name_yes j _ h3 h4 c2).mono ?_; rintro e w1 ⟨rfl, rfl⟩) | (go_at_call 17; refine (known_t _ T).mono ?_; rintro e w2 ⟨rfl, hb⟩) | (go_at_call_of 15 (Value.int .u8 (i : Nat)); refine (known_yes i _ (by omega) (by omega)).mono ?_; rintro e w1 ⟨rfl, rfl⟩) | (go_at_call_of 15 (Value.int .u8 (j : Nat)); refine (known_yes j _ (by omega) (by omega)).mono ?_; rintro e w1 ⟨rfl, rfl⟩) | (go_at_call 20; refine (name_small i _ h1 h2).mono ?_; rintro e w1 ⟨rfl, rfl⟩))
  go_ret
  exact ⟨by simp [hne], hb⟩
set_option maxRecDepth 20000 in
theorem names_same (i : Nat) (w : World) (T : Tabs w) (h1 : 1 ≤ i) (h2 : i ≤ 27) :
    Calls Tryd.prog 5 #[.int .u8 i, .int .u8 i] w fun e w' => e = .returned (.bool true) ∧ Below w.heap.size w w' := by
  have c1 := (T.tab i (by omega)).1
  go_enter Tryd.func5, Tryd.ntmps5
  go_wp2_with (first | (go_at_call_of 11 (Value.int .u8 (i : Nat)); refine (name_yes i _ h1 h2 c1).mono ?_; rintro e w1 ⟨rfl, rfl⟩) | (go_at_call 17; refine (known_t _ T).mono ?_; rintro e w2 ⟨rfl, hb⟩) | (go_at_call_of 15 (Value.int .u8 (i : Nat)); refine (known_yes i _ (by omega) (by omega)).mono ?_; rintro e w1 ⟨rfl, rfl⟩) | (go_at_call 20; refine (name_small i _ h1 h2).mono ?_; rintro e w1 ⟨rfl, rfl⟩))
  go_ret
  exact ⟨by simp, hb⟩
set_option maxRecDepth 20000 in
theorem names_yn (i : Nat) (b : Int) (w : World) (T : Tabs w) (h1 : 1 ≤ i) (h2 : i ≤ 27) (hb0 : 0 ≤ b) (hb1 : b < 256) (hb : b < 1 ∨ 27 < b) :
    Calls Tryd.prog 5 #[.int .u8 i, .int .u8 b] w fun e w' => e = .returned (.bool true) ∧ Below w.heap.size w w' := by
  have c1 := (T.tab i (by omega)).1
  have HB := Lib.hid hb
  clear hb
  go_enter Tryd.func5, Tryd.ntmps5
  go_wp2_with (first | (go_at_call_of 11 (Value.int .u8 (i : Nat)); refine (name_yes i _ h1 h2 c1).mono ?_; rintro e w1 ⟨rfl, rfl⟩) | (go_at_call_of 11 (Value.int .u8 b); refine (name_no b _ HB.out hb0 hb1).mono ?_; rintro e w1 ⟨rfl, rfl⟩) | (go_at_call 17; refine (known_t _ T).mono ?_; rintro e w2 ⟨rfl, hb⟩) | (go_at_call_of 15 (Value.int .u8 (i : Nat)); refine (known_yes i _ (by omega) (by omega)).mono ?_; rintro e w1 ⟨rfl, rfl⟩) | (go_at_call_of 15 (Value.int .u8 b); refine (known_no b _ HB.out hb0 hb1).mono ?_; rintro e w1 ⟨rfl, rfl⟩) | (go_at_call 20; refine (name_small i _ h1 h2).mono ?_; rintro e w1 ⟨rfl, rfl⟩))
  go_ret
  exact ⟨by simp, hb⟩
set_option maxRecDepth 20000 in
theorem names_ny (a : Int) (j : Nat) (w : World) (T : Tabs w) (h1 : 1 ≤ j) (h2 : j ≤ 27) (ha0 : 0 ≤ a) (ha1 : a < 256) (ha : a < 1 ∨ 27 < a) :
    Calls Tryd.prog 5 #[.int .u8 a, .int .u8 j] w fun e w' => e = .returned (.bool true) ∧ Below w.heap.size w w' := by
  have c1 := (T.tab j (by omega)).1
  have HA := Lib.hid ha
  clear ha
  go_enter Tryd.func5, Tryd.ntmps5
  go_wp2_with (first | (go_at_call_of 11 (Value.int .u8 (j : Nat)); refine (name_yes j _ h1 h2 c1).mono ?_; rintro e w1 ⟨rfl, rfl⟩) | (go_at_call_of 11 (Value.int .u8 a); refine (name_no a _ HA.out ha0 ha1).mono ?_; rintro e w1 ⟨rfl, rfl⟩) | (go_at_call 17; refine (known_t _ T).mono ?_; rintro e w2 ⟨rfl, hb⟩) | (go_at_call_of 15 (Value.int .u8 (j : Nat)); refine (known_yes j _ (by omega) (by omega)).mono ?_; rintro e w1 ⟨rfl, rfl⟩) | (go_at_call_of 15 (Value.int .u8 a); refine (known_no a _ HA.out ha0 ha1).mono ?_; rintro e w1 ⟨rfl, rfl⟩))
  go_ret
  exact ⟨by simp, hb⟩
set_option maxRecDepth 20000 in
theorem names_nn (a b : Int) (w : World) (T : Tabs w) (ha0 : 0 ≤ a) (ha1 : a < 256) (ha : a < 1 ∨ 27 < a) (hb0 : 0 ≤ b) (hb1 : b < 256) (hb : b < 1 ∨ 27 < b) :
    Calls Tryd.prog 5 #[.int .u8 a, .int .u8 b] w fun e w' => e = .returned (.bool true) ∧ Below w.heap.size w w' := by
  have HA := Lib.hid ha
  have HB := Lib.hid hb
  clear ha hb
  go_enter Tryd.func5, Tryd.ntmps5
  go_wp2_with (first | (go_at_call_of 11 (Value.int .u8 a); refine (name_no a _ HA.out ha0 ha1).mono ?_; rintro e w1 ⟨rfl, rfl⟩) | (go_at_call_of 11 (Value.int .u8 b); refine (name_no b _ HB.out hb0 hb1).mono ?_; rintro e w1 ⟨rfl, rfl⟩) | (go_at_call 17; refine (known_t _ T).mono ?_; rintro e w2 ⟨rfl, hb⟩) | (go_at_call_of 15 (Value.int .u8 a); refine (known_no a _ HA.out ha0 ha1).mono ?_; rintro e w1 ⟨rfl, rfl⟩) | (go_at_call_of 15 (Value.int .u8 b); refine (known_no b _ HB.out hb0 hb1).mono ?_; rintro e w1 ⟨rfl, rfl⟩))
  go_ret
  exact ⟨by simp, hb⟩
set_option maxRecDepth 100000 in
theorem isaNames_any {H : Type} (enc : TypeId × Value → H) (W : World) {base : Nat} {v0 v1 : Value} {d0 d1 : DataW H} {p0 p1 : List MemPlace} (o0 : Value.okWide Tryd.prog W .any base 5 v0) (h0 : DataW.Trod enc Tryd.prog W 0 (fun _ => true) true 5 v0 d0 p0)
    (o1 : Value.okWide Tryd.prog W .any base 5 v1) (h1 : DataW.Trod enc Tryd.prog W 0 (fun _ => true) true 5 v1 d1 p1)
    (hsz : ∀ x ∈ DataW.weightsEach Tryd.prog [5, 5] [d0, d1], x ≤ reachBytes) (hL : laidMetH Tryd.prog Rows.isaNamesRow.laid W) :
    Calls Tryd.prog 5 #[v0, v1] W fun e w' => e = .returned (.bool true) ∧ Below W.heap.size W w' := by
  obtain ⟨a, rfl, rfl, rfl, wa⟩ := open_int Tryd.underlying5 o0 h0
  obtain ⟨b, rfl, rfl, rfl, wb⟩ := open_int Tryd.underlying5 o1 h1
  have ha := bounds_u8 wa
  have hb := bounds_u8 wb
  have T : Tabs W := tabs_laid (by kernel_rfl) hL (by simp [Rows.isaNamesRow]) (by simp [Rows.isaNamesRow])
  by_cases k1 : 1 ≤ a ∧ a ≤ 27
  · obtain ⟨i, rfl⟩ := Int.eq_ofNat_of_zero_le ha.1
    by_cases k2 : 1 ≤ b ∧ b ≤ 27
    · obtain ⟨j, rfl⟩ := Int.eq_ofNat_of_zero_le hb.1
      by_cases h : i = j
      · subst h
        exact names_same i W T (by omega) (by omega)
      · exact names_yy i j W T (by omega) (by omega) (by omega) (by omega) h
    · exact names_yn i b W T (by omega) (by omega) hb.1 (by omega) (by omega)
  · by_cases k2 : 1 ≤ b ∧ b ≤ 27
    · obtain ⟨j, rfl⟩ := Int.eq_ofNat_of_zero_le hb.1
      exact names_ny a j W T (by omega) (by omega) ha.1 (by omega) (by omega)
    · exact names_nn a b W T ha.1 (by omega) (by omega) hb.1 (by omega) (by omega)
end Go.Proofs.YtcbhkeinmdobhaaDoor
