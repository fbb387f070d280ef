import Derived.Test.YtcbhkeinmdobhaaDoorMa
import Derived.Test.YtcbhkeinmdobhaaDoorFlat
import Derived.OpenShut
namespace Go.Proofs.YtcbhkeinmdobhaaDoor
open Go.ChangeShapes Go.WideShapes Go.ChangeAt Go.RowKit
set_option linter.unusedVariables false
set_option linter.unusedSimpArgs false

theorem table_yes (i : Nat) (w : World) (h1 : 1 ≤ i) (h2 : i ≤ 27) (hn : w.cell? ⟨0, i * 2, none⟩ = some (.string (nameB i))) (hs : w.cell? ⟨0, i * 2 + 1, none⟩ = some (.string (shapeB i))) (hz : 0 < w.heap.size) :
    Calls Tryd.prog 3 #[.int .u8 (i : Int)] w fun e w' => e = .returned (.bool true) ∧ Below w.heap.size w w' := by
  have hs' : (w.alloc (.cells nameCells 9)).cell? ⟨0, i * 2 + 1, none⟩ = some (.string (shapeB i)) := by
    rw [(((Below.refl w.heap.size w).alloc (Nat.le_refl _) (.cells nameCells 9)).cell (p := ⟨0, i * 2 + 1, none⟩) hz)]; exact hs
  go_enter Tryd.func3, Tryd.ntmps3
  go_wp2_with (first | (go_at_call 11; refine (name_yes i _ h1 h2 hn).mono ?_; rintro e w' ⟨rfl, rfl⟩) | (go_at_call 12; refine (rname_yes i _ h1 h2).mono ?_; rintro e w' ⟨rfl, rfl⟩) | (go_at_call 13; refine (shape_yes i _ h1 h2 hs').mono ?_; rintro e w' ⟨rfl, rfl⟩) | (go_at_call 14; refine (rshape_yes i _ h1 h2).mono ?_; rintro e w' ⟨rfl, rfl⟩) | (go_at_call 15; refine (known_yes _ _ (by omega) (by omega)).mono ?_; rintro e w' ⟨rfl, rfl⟩) | (go_at_call 16; refine (rknown_yes _ _ (by omega) (by omega)).mono ?_; rintro e w' ⟨rfl, rfl⟩))
  go_ret
  exact ⟨rfl, ((Below.refl _ _).alloc (Nat.le_refl _) _).alloc (by simp) _⟩
theorem table_no (n : Int) (w : World) (h : n < 1 ∨ 27 < n) (h0 : 0 ≤ n) (h2 : n < 256) :
    Calls Tryd.prog 3 #[.int .u8 n] w fun e w' => e = .returned (.bool true) ∧ Below w.heap.size w w' := by
  go_enter Tryd.func3, Tryd.ntmps3
  go_wp2_with (first | (go_at_call 11; refine (name_no _ _ h h0 h2).mono ?_; rintro e w' ⟨rfl, rfl⟩) | (go_at_call 12; refine (rname_no _ _ h h0 h2).mono ?_; rintro e w' ⟨rfl, rfl⟩) | (go_at_call 13; refine (shape_no _ _ h h0 h2).mono ?_; rintro e w' ⟨rfl, rfl⟩) | (go_at_call 14; refine (rshape_no _ _ h h0 h2).mono ?_; rintro e w' ⟨rfl, rfl⟩) | (go_at_call 15; refine (known_no _ _ h h0 h2).mono ?_; rintro e w' ⟨rfl, rfl⟩) | (go_at_call 16; refine (rknown_no _ _ h h0 h2).mono ?_; rintro e w' ⟨rfl, rfl⟩))
  go_ret
  exact ⟨rfl, Below.refl _ _⟩

theorem pair_at (f g : Nat → Value) : ∀ (n j i : Nat), i < n → ((List.range' j n).flatMap fun i => [f i, g i])[i * 2]? = some (f (j + i)) ∧ ((List.range' j n).flatMap fun i => [f i, g i])[i * 2 + 1]? = some (g (j + i)) := by
  intro n
  induction n with
  | zero => intro j i h; omega
  | succ n ih =>
    intro j i h
    rw [List.range'_succ, List.flatMap_cons]
    cases i with
    | zero => simp
    | succ i =>
      have := ih (j + 1) i (by omega)
      rw [show (i + 1) * 2 = i * 2 + 2 from by omega, show j + (i + 1) = j + 1 + i from by omega]
      simpa using this
theorem tab_flat : Flat.flatN 3 (Rows.laid_bulkhead_isa_operations : DataW Unit) = (List.range' 0 28).flatMap fun i => [.string (nameB i), .string (shapeB i)] := by kernel_rfl
theorem tabOk {W : World} {l : List (String × DataW Unit)} (hp : (l.all fun x => x.2.handleName?.isNone) = true) (h : laidMetH Tryd.prog l W) (hx : ("bulkhead/isa.operations", Rows.laid_bulkhead_isa_operations) ∈ l) : TabOk W := by
  have hv := Flat.var_flat (m := 3) (g := 0) (t := 46) hp h hx (by kernel_rfl) (by kernel_rfl) (by kernel_rfl) tab_flat
  intro i hi
  have := pair_at (fun i => .string (nameB i)) (fun i => .string (shapeB i)) 28 0 i hi
  rw [Nat.zero_add] at this
  exact ⟨hv _ _ this.1, hv _ _ this.2⟩
set_option maxRecDepth 100000 in
theorem isaTable_any {H : Type} (enc : TypeId × Value → H) (W : World) {base : Nat} {v0 : Value} {d0 : DataW H} {p0 : List MemPlace} (o0 : Value.okWide Tryd.prog W .any base 5 v0) (h0 : DataW.Trod enc Tryd.prog W 0 (fun _ => true) true 5 v0 d0 p0)
    (hsz : ∀ x ∈ DataW.weightsEach Tryd.prog [5] [d0], x ≤ reachBytes) (hL : laidMetH Tryd.prog Rows.isaTableRow.laid W) :
    Calls Tryd.prog 3 #[v0] W fun e w' => e = .returned (.bool true) ∧ Below W.heap.size W w' := by
  obtain ⟨n, rfl, rfl, rfl, wn⟩ := open_int Tryd.underlying5 o0 h0
  have hb := bounds_u8 wn
  have hT : TabOk W := tabOk (by kernel_rfl) hL (by simp [Rows.isaTableRow])
  by_cases h : 1 ≤ n ∧ n ≤ 27
  · obtain ⟨i, rfl⟩ := Int.eq_ofNat_of_zero_le hb.1
    exact table_yes i W (by omega) (by omega) (hT i (by omega)).1 (hT i (by omega)).2 (World.block_lt_of_cell? W _ (hT i (by omega)).1)
  · exact table_no n W (by omega) (by omega) (by omega)
end Go.Proofs.YtcbhkeinmdobhaaDoor
