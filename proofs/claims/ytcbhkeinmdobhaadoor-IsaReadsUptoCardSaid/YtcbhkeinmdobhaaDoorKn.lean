import Derived.Test.YtcbhkeinmdobhaaDoorSh3
import Derived.Test.YtcbhkeinmdobhaaDoorEd
import Derived.Test.YtcbhkeinmdobhaaDoorTab
namespace Go.Proofs.YtcbhkeinmdobhaaDoor
open Go.ChangeShapes Go.WideShapes Go.ChangeAt Go.RowKit
set_option linter.unusedVariables false
set_option linter.unusedSimpArgs false

theorem show_known (w : World) (hT : TabOk w) (hP : Lib.TabIs Tryd.prog w "internal/strconv.uint64pow10" .u64 Lib.pow10Tab) (hz : 0 < w.heap.size) :
    Calls Tryd.prog 21 #[ins 18 1 2 0 (-2)] w fun e w' => e = .returned (.tuple #[.string ⟨#[97, 100, 100, 105, 32, 114, 49, 32, 114, 50, 32, 45, 50]⟩, .bool true]) ∧ Below w.heap.size w w' := by
  have h := show_abn 18 1 2 0 (-2) w (by omega) (by omega) (by decide) (by decide) (by omega) (by omega) (by omega) (by omega) (by omega) hT hP hz
  have e : (⟨(Lib.join ((nameB 18 :: [⟨#[114]⟩ ++ dig 1, ⟨#[114]⟩ ++ dig 2, dec (-2)] : List ByteArray).map (·.data.toList)) [32]).toArray⟩ : ByteArray) = ⟨#[97, 100, 100, 105, 32, 114, 49, 32, 114, 50, 32, 45, 50]⟩ := by
    have e1 : dig 1 = ⟨#[49]⟩ := by unfold dig; rw [Lib.decDigits_one (by omega)]; rfl
    have e2 : dig 2 = ⟨#[50]⟩ := by unfold dig; rw [Lib.decDigits_one (by omega)]; rfl
    have e3 : dec (-2) = ⟨#[45, 50]⟩ := by unfold dec; rw [show ((-2 : Int)) = -((2 : Nat) : Int) from rfl, Lib.itoa_neg 2 (by omega), Lib.decDigits_one (by omega)]; rfl
    rw [e1, e2, e3]
    rfl
  rw [e] at h
  exact h
theorem enc_known (w : World) : Calls Tryd.prog 19 #[ins 18 1 2 0 (-2)] w fun e w' => e = .returned (.agg #[.int .u8 18, .int .u8 1, .int .u8 2, .int .u8 0, .int .u8 255, .int .u8 255, .int .u8 255, .int .u8 254]) ∧ Below w.heap.size w w' := enc_isa 18 1 2 0 (-2) w
set_option maxRecDepth 20000 in
theorem known_c (w : World) (hT : TabOk w) (hP : Lib.TabIs Tryd.prog w "internal/strconv.uint64pow10" .u64 Lib.pow10Tab) (hz : 0 < w.heap.size) :
    Calls Tryd.prog 17 #[] w fun e w' => e = .returned (.bool true) ∧ Below w.heap.size w w' := by
  have E8 := fun w => eq8 18 1 2 0 255 255 255 254 w
  go_enter Tryd.func17, Tryd.ntmps17
  go_wp2_with (first | (go_at_call 21; refine (show_known _ hT hP hz).mono ?_; rintro e w1 ⟨rfl, hb1⟩) | (go_at_call 19; refine (enc_known _).mono ?_; rintro e w2 ⟨rfl, hb2⟩))
  go_ret
  exact ⟨rfl, hb1.trans (hb2.mono hb1.size)⟩
/-- what a law's other functions ask of the world: the two tables -/
structure Tabs (w : World) : Prop where
  tab : TabOk w
  pow : Lib.TabIs Tryd.prog w "internal/strconv.uint64pow10" .u64 Lib.pow10Tab
theorem Tabs.pos {w : World} (h : Tabs w) : 0 < w.heap.size := World.block_lt_of_cell? w _ (h.tab 0 (by omega)).1
theorem Tabs.on {w w' : World} (h : Tabs w) (hb : Below w.heap.size w w') : Tabs w' := ⟨tab_below h.pos h.tab hb, pow10_below h.pow hb⟩
theorem Tabs.at {w w' W : World} (h : Tabs w) (hW : Below w.heap.size w W) (hb : Below W.heap.size W w') : Tabs w' := (h.on hW).on hb
theorem known_t (w : World) (h : Tabs w) : Calls Tryd.prog 17 #[] w fun e w' => e = .returned (.bool true) ∧ Below w.heap.size w w' := known_c w h.tab h.pow h.pos
theorem tabs_laid {W : World} {l : List (String × DataW Unit)} (hp : (l.all fun x => x.2.handleName?.isNone) = true) (h : laidMetH Tryd.prog l W) (hx : ("bulkhead/isa.operations", Rows.laid_bulkhead_isa_operations) ∈ l)
    (hy : ("internal/strconv.uint64pow10", Rows.laid_internal_strconv_uint64pow10) ∈ l) : Tabs W := by
  refine ⟨tabOk hp h hx, ?_⟩
  obtain ⟨ps, hlv, _⟩ := Flat.plainMet hp h
  obtain ⟨g', t', cs, fuel, p, hg', ht', hvar, hd⟩ := Flat.LaidVars_reads hlv _ _ hy
  have hg : Tryd.prog.globalNamed "internal/strconv.uint64pow10" = some 3 := by kernel_rfl
  have hty : (Tryd.prog.globals[3]?).map (·.type) = some 110 := by kernel_rfl
  obtain rfl := Option.some.inj (hg.symm.trans hg')
  obtain rfl := Option.some.inj (hty.symm.trans ht')
  have e : cs.toList = Lib.pow10Tab.map fun z => Value.int .u64 z := Lib.cells_of_tab (k := .u64) (zs := Lib.pow10Tab) Tryd.underlying110 (by kernel_rfl) (by kernel_rfl) (by kernel_rfl) hd
  unfold Lib.TabIs
  rw [hvar, ← e]
end Go.Proofs.YtcbhkeinmdobhaaDoor
