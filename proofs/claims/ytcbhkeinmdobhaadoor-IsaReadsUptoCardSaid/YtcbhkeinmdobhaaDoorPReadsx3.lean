-- written by this session's program myprint.py, over the kit's printer (small arrays as structs)
import Derived.Test.YtcbhkeinmdobhaaDoorPReadsx0
import Derived.Test.YtcbhkeinmdobhaaDoorPReadsx1
import Derived.Test.YtcbhkeinmdobhaaDoorPReadsx2
namespace Go.Proofs.YtcbhkeinmdobhaaDoor.PReads
open Go.RowKit Go.Proofs.YtcbhkeinmdobhaaDoorW.PrintWords Go.Proofs.YtcbhkeinmdobhaaDoorW.PrintLast Go.Proofs.YtcbhkeinmdobhaaDoorW.PrintMore
attribute [local go_sem] max2_int min2_int max_two min_two max_three min_three max_four min_four   -- for this text's walks alone
set_option linter.unusedVariables false
set_option linter.unusedSimpArgs false

/-! ### bulkheadref03_Read: function 29 -/
mutual
def bulkheadref03_Read.l0 : Nat → ByteArray → List ByteArray → Int → Int → Int → Int → Int → Int → Option (Int × Int × Int × Int × Int × Int)
  | 0, _, _, _, _, _, _, _, _ => none
  | k + 1, x0, x4, x6, x147000, x147001, x147002, x147003, x147004 => if x6 ≤ 27 then ((bulkheadref03_names.f).bind fun t147 => (if 0 ≤ x6 then (if x6 < (t147.length : Int) then (if 0 < (x4.length : Int) then (if (rdOf ByteArray.empty t147 x6).toList = (rdOf ByteArray.empty x4 0).toList then (bulkheadref03_Read.l0 k x0 x4 (wrap64 (x6 + 1)) ((x6) % 256) x147001 x147002 x147003 x147004) else (bulkheadref03_Read.l0 k x0 x4 (wrap64 (x6 + 1)) x147000 x147001 x147002 x147003 x147004)) else (none)) else (none)) else (none))) else (if x147000 = 0 then (some (0, 0, 0, 0, 0, 30)) else ((bulkheadref03_shapes.f).bind fun t152 => (if 0 ≤ (wrap64 (x147000)) then (if (wrap64 (x147000)) < (t152.length : Int) then (bulkheadref03_Read.l1 k x0 x4 (rdOf ByteArray.empty t152 (wrap64 (x147000))) 0 x147000 x147001 x147002 x147003 x147004) else (none)) else (none))))
def bulkheadref03_Read.l1 : Nat → ByteArray → List ByteArray → ByteArray → Int → Int → Int → Int → Int → Int → Option (Int × Int × Int × Int × Int × Int)
  | 0, _, _, _, _, _, _, _, _, _ => none
  | k + 1, x0, x4, x7, x8, x147000, x147001, x147002, x147003, x147004 => if x8 < (x7.size : Int) then (if (wrap64 (x8 + 1)) < (x4.length : Int) then (if 0 ≤ x8 then (if 0 ≤ (wrap64 (x8 + 1)) then ((bulkheadref03_with.f k x147000 x147001 x147002 x147003 x147004 (bt x7 x8) (rdOf ByteArray.empty x4 (wrap64 (x8 + 1)))).bind fun bt157 => (bulkheadref03_Read.l1 k x0 x4 x7 (wrap64 (x8 + 1)) bt157.1 bt157.2.1 bt157.2.2.1 bt157.2.2.2.1 bt157.2.2.2.2)) else (none)) else (none)) else ((bulkheadref03_Show.f x147000 x147001 x147002 x147003 x147004).bind fun bt162 => (if bt162.1.toList = x0.toList then (some (x147000, x147001, x147002, x147003, x147004, 0)) else (some (0, 0, 0, 0, 0, 41))))) else ((bulkheadref03_Show.f x147000 x147001 x147002 x147003 x147004).bind fun bt164 => (if bt164.1.toList = x0.toList then (some (x147000, x147001, x147002, x147003, x147004, 0)) else (some (0, 0, 0, 0, 0, 41))))
end
def bulkheadref03_Read.f (k : Nat) (a0 : ByteArray) : Option (Int × Int × Int × Int × Int × Int) := (bulkheadref03_words.f k a0).bind fun t143 => (bulkheadref03_Read.l0 k a0 t143 1 0 0 0 0 0)
theorem bulkheadref03_Read.mono_l : ∀ k, (∀ y0 y1 y2 y3 y4 y5 y6 y7, LeO (bulkheadref03_Read.l0 k y0 y1 y2 y3 y4 y5 y6 y7) (bulkheadref03_Read.l0 (k + 1) y0 y1 y2 y3 y4 y5 y6 y7)) ∧ (∀ y0 y1 y2 y3 y4 y5 y6 y7 y8, LeO (bulkheadref03_Read.l1 k y0 y1 y2 y3 y4 y5 y6 y7 y8) (bulkheadref03_Read.l1 (k + 1) y0 y1 y2 y3 y4 y5 y6 y7 y8))
  | 0 => ⟨fun _ _ _ _ _ _ _ _ r h => by simp [bulkheadref03_Read.l0] at h, fun _ _ _ _ _ _ _ _ _ r h => by simp [bulkheadref03_Read.l1] at h⟩
  | k + 1 => by
    obtain ⟨ih0, ih1⟩ := bulkheadref03_Read.mono_l k
    refine ⟨?_, ?_⟩
    · intro y0 y1 y2 y3 y4 y5 y6 y7
      unfold bulkheadref03_Read.l0
      repeat' first
      | (with_reducible exact ih0 _ _ _ _ _ _ _ _)
      | (with_reducible exact ih1 _ _ _ _ _ _ _ _ _)
      | (with_reducible exact bulkheadref03_with.mono _ _ _ _ _ _ _ _)
      | (with_reducible exact bulkheadref03_words.mono _ _)
      | (with_reducible exact LeO.refl _)
      | (with_reducible exact LeO.none _)
      | (with_reducible refine LeO.ite ?_ ?_)
      | (with_reducible refine LeO.bind ?_ (fun _ => ?_))
      | exact ih0 _ _ _ _ _ _ _ _
      | exact ih1 _ _ _ _ _ _ _ _ _
      | exact bulkheadref03_with.mono _ _ _ _ _ _ _ _
      | exact bulkheadref03_words.mono _ _
      | exact LeO.none _
      | refine LeO.ite ?_ ?_
      | refine LeO.bind ?_ (fun _ => ?_)
    · intro y0 y1 y2 y3 y4 y5 y6 y7 y8
      unfold bulkheadref03_Read.l1
      repeat' first
      | (with_reducible exact ih0 _ _ _ _ _ _ _ _)
      | (with_reducible exact ih1 _ _ _ _ _ _ _ _ _)
      | (with_reducible exact bulkheadref03_with.mono _ _ _ _ _ _ _ _)
      | (with_reducible exact bulkheadref03_words.mono _ _)
      | (with_reducible exact LeO.refl _)
      | (with_reducible exact LeO.none _)
      | (with_reducible refine LeO.ite ?_ ?_)
      | (with_reducible refine LeO.bind ?_ (fun _ => ?_))
      | exact ih0 _ _ _ _ _ _ _ _
      | exact ih1 _ _ _ _ _ _ _ _ _
      | exact bulkheadref03_with.mono _ _ _ _ _ _ _ _
      | exact bulkheadref03_words.mono _ _
      | exact LeO.none _
      | refine LeO.ite ?_ ?_
      | refine LeO.bind ?_ (fun _ => ?_)
theorem bulkheadref03_Read.mono : ∀ a0 k, LeO (bulkheadref03_Read.f k a0) (bulkheadref03_Read.f (k + 1) a0) := by
  intro a0 k
  obtain ⟨ih0, ih1⟩ := bulkheadref03_Read.mono_l k
  unfold bulkheadref03_Read.f
  repeat' first
      | (with_reducible exact ih0 _ _ _ _ _ _ _ _)
      | (with_reducible exact ih1 _ _ _ _ _ _ _ _ _)
      | (with_reducible exact bulkheadref03_with.mono _ _ _ _ _ _ _ _)
      | (with_reducible exact bulkheadref03_words.mono _ _)
      | (with_reducible exact LeO.refl _)
      | (with_reducible exact LeO.none _)
      | (with_reducible refine LeO.ite ?_ ?_)
      | (with_reducible refine LeO.bind ?_ (fun _ => ?_))
      | exact ih0 _ _ _ _ _ _ _ _
      | exact ih1 _ _ _ _ _ _ _ _ _
      | exact bulkheadref03_with.mono _ _ _ _ _ _ _ _
      | exact bulkheadref03_words.mono _ _
      | exact LeO.none _
      | refine LeO.ite ?_ ?_
      | refine LeO.bind ?_ (fun _ => ?_)
def bulkheadref03_Read.T6 : Bool × List (List Nat × List Nat) := (true, [([], []), ([], []), ([0, 1], [0, 1]), ([2], [2]), ([], []), ([4], [4]), ([5], [5]), ([3, 6], [3, 6])])
def bulkheadref03_Read.B6 : List Nat := [0, 0, 3, 7, 0, 16, 48, 127]
theorem bulkheadref03_Read.tab6 : rtab .any (opsOf Tryd.f29 6) = bulkheadref03_Read.T6 := by kernel_rfl
theorem bulkheadref03_Read.bits6 : waitsOk bulkheadref03_Read.T6.2 bulkheadref03_Read.B6 = true := by kernel_rfl
def bulkheadref03_Read.T14 : Bool × List (List Nat × List Nat) := (true, [([], []), ([], []), ([], []), ([1, 2], [1, 2]), ([], []), ([], []), ([5], [5]), ([4, 6], [4, 6]), ([7], [7]), ([0, 3, 8], [0, 3, 8]), ([9, 9, 0, 1, 2, 3, 4, 5, 6, 7, 8, 9], [9])])
def bulkheadref03_Read.B14 : List Nat := [0, 0, 0, 6, 0, 0, 32, 112, 240, 511, 1023]
theorem bulkheadref03_Read.tab14 : rtab .any (opsOf Tryd.f29 14) = bulkheadref03_Read.T14 := by kernel_rfl
theorem bulkheadref03_Read.bits14 : waitsOk bulkheadref03_Read.T14.2 bulkheadref03_Read.B14 = true := by kernel_rfl
set_option maxHeartbeats 8000000 in
set_option maxRecDepth 100000 in
theorem bulkheadref03_Read.calls (k : Nat) (a0 : ByteArray) (r1 : Int) (r2 : Int) (r3 : Int) (r4 : Int) (r5 : Int) (r6 : Int) (w : World) (h : bulkheadref03_Read.f k a0 = some (r1, r2, r3, r4, r5, r6)) :
    Calls Tryd.prog 29 #[.string a0] w fun e w' => e = .returned (.tuple #[.agg #[.int .u8 r1, .int .u8 r2, .int .u8 r3, .int .u8 r4, .int .i32 r5], .int .i64 r6]) ∧ Below w.heap.size w w' := by
  have hu26 := Tryd.underlying26
  have HB := Aside0.mk (Below.refl w.heap.size w)
  have H : ((bulkheadref03_words.f k a0).bind fun t143 => (bulkheadref03_Read.l0 k a0 t143 1 0 0 0 0 0)) = some (r1, r2, r3, r4, r5, r6) := h
  clear h
  replace H := Option.bind_eq_some_iff.mp H
  obtain ⟨t143, A20, H⟩ := H
  replace H : (bulkheadref03_Read.l0 k a0 t143 1 0 0 0 0 0) = some (r1, r2, r3, r4, r5, r6) := H
  have A2 := Aside0.mk A20
  clear A20
  have H' := Aside0.mk H
  clear H
  go_enter Tryd.func29, Tryd.ntmps29
  go_wp2_with (first | ((with_reducible refine gate_dst (N := 2) rfl ?_); (try (refine gate_guard (by rfl) ?_; dsimp only)); refine box_event ?hg (N := 2) ?hd (cs := #[.int .u8 0, .int .u8 0, .int .u8 0, .int .u8 0, .int .i32 0]) (t := 26) ?hr ?_; (case hd => rfl); (case hg => rfl); (case hr => first | (go_simp; done) | (go_simp; rfl)); intro gb142 hg w3 hbox hb; have n0_ := Aside0.mk (below_step (by repeat (first | (with_reducible first | exact HB.out | apply below_alloc | apply pw_below_drewN | apply below_drew1) | exact HB.out)) hb); have n1_ := Aside0.mk (hbox); have n2_ := Aside0.mk ((by rw [hg]; exact (below_size (by repeat (first | (with_reducible first | exact HB.out | apply below_alloc | apply pw_below_drewN | apply below_drew1) | exact HB.out))) : w.heap.size ≤ gb142)); have n3_ := Aside0.mk ((by rw [hg]; exact (below_size (by repeat (first | (with_reducible first | exact HB.out | apply below_alloc | apply pw_below_drewN | apply below_drew1) | exact HB.out))) : w.heap.size ≤ gb142)); clear HB; have HB := n0_; have BK142 := n1_; have GW142 := n2_; have GE142 := n3_; clear n0_ n1_ n2_ n3_; clear hb hbox hg) | ((with_reducible refine gate_callee (f := 43) rfl ?_); refine goesL_ (some 12) rfl rfl Tryd.func43 (by kernel_rfl) rfl #[.string a0] rfl (by (try simp only [List.map_toArray, List.map_cons, List.map_nil]); first | done | rfl | (simp only [List.length_drop, List.length_take]; rfl)) ?_; (with_reducible refine (bulkheadref03_words.calls k a0 t143 _ A2.out).mono ?_); rintro e w4 ⟨v144, rfl, ho0, hb⟩; refine ⟨_, rfl, ?_⟩; have n0_ := Aside0.mk (Kd.R_lower ho0 (below_size (by repeat (first | (with_reducible first | exact HB.out | apply below_alloc | apply pw_below_drewN | apply below_drew1 | refine below_set ?_ GE142.out) | exact HB.out)))); have n1_ := Aside0.mk (blk_below (g := gb142) (o := .cells #[.int .u8 0, .int .u8 0, .int .u8 0, .int .u8 0, .int .i32 0] 26 (0, 0)) (by (with_reducible repeat (first | refine blk_drewN ?_ _ | refine blk_drew ?_ | refine blk_alloc ?_ _)); exact BK142.out) hb); have n2_ := Aside0.mk (below_step (by repeat (first | (with_reducible first | exact HB.out | apply below_alloc | apply pw_below_drewN | apply below_drew1 | refine below_set ?_ GE142.out) | exact HB.out)) hb); clear BK142; clear HB; have HO145 := n0_; have BK142 := n1_; have HB := n2_; clear n0_ n1_ n2_; (try clear hb); (try clear hb2); (try clear hk); (try clear hi); (try clear ho0)) | ((with_reducible refine gate_dst (N := 5) rfl ?_); (try (refine gate_guard (by rfl) ?_; dsimp only)); refine box_event ?hg (N := 5) ?hd (cs := #[.int .u8 0, .int .u8 0, .int .u8 0, .int .u8 0, .int .i32 0]) (t := 26) ?hr ?_; (case hd => rfl); (case hg => rfl); (case hr => first | (go_simp; done) | (go_simp; rfl)); intro gb146 hg w5 hbox hb; have n0_ := Aside0.mk (Kd.R_below (by (with_reducible repeat (first | apply Kd.R_alloc | apply Kd.R_drewN | apply Kd.R_drew)); exact HO145.out) hb); have n1_ := Aside0.mk (blk_below (g := gb142) (o := .cells #[.int .u8 0, .int .u8 0, .int .u8 0, .int .u8 0, .int .i32 0] 26 (0, 0)) (by (with_reducible repeat (first | refine blk_drewN ?_ _ | refine blk_drew ?_ | refine blk_alloc ?_ _)); exact BK142.out) hb); have n2_ := Aside0.mk (below_step (by repeat (first | (with_reducible first | exact HB.out | apply below_alloc | apply pw_below_drewN | apply below_drew1 | refine below_set ?_ GE142.out) | exact HB.out)) hb); have n3_ := Aside0.mk (hbox); have n4_ := Aside0.mk ((by rw [hg]; exact (below_size (by repeat (first | (with_reducible first | exact HB.out | apply below_alloc | apply pw_below_drewN | apply below_drew1 | refine below_set ?_ GE142.out) | exact HB.out))) : w.heap.size ≤ gb146)); have n5_ := Aside0.mk ((by rw [hg]; exact (below_size (by repeat (first | (with_reducible first | exact HB.out | apply below_alloc | apply pw_below_drewN | apply below_drew1 | refine below_set ?_ GE142.out) | exact HB.out))) : w.heap.size ≤ gb146)); have n6_ := Aside0.mk ((by rw [hg]; exact Nat.ne_of_lt (blk_lt (g := gb142) (o := .cells #[.int .u8 0, .int .u8 0, .int .u8 0, .int .u8 0, .int .i32 0] 26 (0, 0)) (by (with_reducible repeat (first | refine blk_drewN ?_ _ | refine blk_drew ?_ | refine blk_alloc ?_ _)); exact BK142.out)) : gb142 ≠ gb146)); have n7_ := Aside0.mk ((by rw [hg]; exact Nat.ne_of_gt (blk_lt (g := gb142) (o := .cells #[.int .u8 0, .int .u8 0, .int .u8 0, .int .u8 0, .int .i32 0] 26 (0, 0)) (by (with_reducible repeat (first | refine blk_drewN ?_ _ | refine blk_drew ?_ | refine blk_alloc ?_ _)); exact BK142.out)) : gb146 ≠ gb142)); clear HO145; clear BK142; clear HB; have HO145 := n0_; have BK142 := n1_; have HB := n2_; have BK146 := n3_; have GW146 := n4_; have GE146 := n5_; have NB142_146 := n6_; have NB146_142 := n7_; clear n0_ n1_ n2_ n3_ n4_ n5_ n6_ n7_; clear hb hbox hg))
  go_loopg [6] k (fun kq v6 w' => ∃ (x6_1 : Int) (x147000_1 : Int), v6 = .int .i64 x6_1 ∧ Aside0 (bulkheadref03_Read.l0 kq a0 t143 x6_1 x147000_1 0 0 0 0 = some (r1, r2, r3, r4, r5, r6)) ∧ Aside0 (kq ≤ k) ∧ Aside0 (Kd.R Kd.string 9 w' w.heap.size (fun _ => True) v144 t143) ∧ Aside0 (w'.heap[gb142]? = some (.cells #[.int .u8 0, .int .u8 0, .int .u8 0, .int .u8 0, .int .i32 0] 26 (0, 0))) ∧ Aside0 (w'.heap[gb146]? = some (.cells #[.int .u8 x147000_1, .int .u8 0, .int .u8 0, .int .u8 0, .int .i32 0] 26 (0, 0))) ∧ Aside0 (Below w.heap.size w w'))
  case atStart => exact ⟨(1), (0), (by first | rfl | (simp; done) | (simp [*]; done)), H', ⟨Nat.le_refl _⟩, ⟨by (with_reducible repeat (first | apply Kd.R_alloc | apply Kd.R_drewN | apply Kd.R_drew)); exact HO145.out⟩, ⟨by (with_reducible repeat (first | refine blk_drewN ?_ _ | refine blk_drew ?_ | refine blk_alloc ?_ _)); exact BK142.out⟩, ⟨by (with_reducible repeat (first | refine blk_drewN ?_ _ | refine blk_drew ?_ | refine blk_alloc ?_ _)); exact BK146.out⟩, ⟨by repeat (first | (with_reducible first | exact HB.out | apply below_alloc | apply pw_below_drewN | apply below_drew1 | refine below_set ?_ GE142.out | refine below_set ?_ GE146.out) | exact HB.out)⟩⟩
  case round =>
    clear H'
    try clear c2
    try clear p2
    try clear c4
    obtain ⟨x6_1, x147000_1, rfl, HA, HK1, HO_4, BK142, BK146, HB⟩ := hrel
    cases gk with
    | zero => exact absurd HA.out (by simp [bulkheadref03_Read.l0])
    | succ k1 =>
      have H := HA.out
      clear HA
      simp only [bulkheadref03_Read.l0] at H
      by_cases c6 : x6_1 ≤ 27
      · rw [if_pos c6] at H
        have c6b0 : decide (x6_1 ≤ 27) = true := decide_eq_true c6
        clear c6
        replace H := Option.bind_eq_some_iff.mp H
        obtain ⟨t147, A70, H⟩ := H
        replace H : (if 0 ≤ x6_1 then (if x6_1 < (t147.length : Int) then (if 0 < (t143.length : Int) then (if (rdOf ByteArray.empty t147 x6_1).toList = (rdOf ByteArray.empty t143 0).toList then (bulkheadref03_Read.l0 k1 a0 t143 (wrap64 (x6_1 + 1)) ((x6_1) % 256) 0 0 0 0) else (bulkheadref03_Read.l0 k1 a0 t143 (wrap64 (x6_1 + 1)) x147000_1 0 0 0 0)) else (none)) else (none)) else (none)) = some (r1, r2, r3, r4, r5, r6) := H
        have A7 := Aside0.mk A70
        clear A70
        by_cases c8 : 0 ≤ x6_1
        · rw [if_pos c8] at H
          have c8b0 : decide (0 ≤ x6_1) = true := decide_eq_true c8
          clear c8
          by_cases c9 : x6_1 < (t147.length : Int)
          · rw [if_pos c9] at H
            have c9b0 : decide (x6_1 < (t147.length : Int)) = true := decide_eq_true c9
            clear c9
            by_cases c10 : 0 < (t143.length : Int)
            · rw [if_pos c10] at H
              have c10b0 : decide (0 < (t143.length : Int)) = true := decide_eq_true c10
              have c10b1 : decide (0 < t143.length) = true := decide_eq_true (by omega)
              clear c10
              by_cases c11 : (rdOf ByteArray.empty t147 x6_1).toList = (rdOf ByteArray.empty t143 0).toList
              · rw [if_pos c11] at H
                have c11b0 : ((rdOf ByteArray.empty t147 x6_1).toList == (rdOf ByteArray.empty t143 0).toList) = true := beq_iff_eq.mpr c11
                have c11b1 : ((rdOf ByteArray.empty t147 x6_1).toList != (rdOf ByteArray.empty t143 0).toList) = false := bne_eq_false_iff_eq.mpr c11
                clear c11
                have H' := Aside0.mk H
                clear H
                try go_wp2
                have n0_ := Aside0.mk (Kd.R_drew HO_4.out)
                have n1_ := Aside0.mk (blk_drew BK142.out)
                have n2_ := Aside0.mk (blk_drew BK146.out)
                have n3_ := Aside0.mk (below_drew1 HB.out)
                clear HO_4
                clear BK142
                clear BK146
                clear HB
                have HO_4 := n0_
                have BK142 := n1_
                have BK146 := n2_
                have HB := n3_
                clear n0_ n1_ n2_ n3_
                obtain ⟨Ao13, co13, eo13⟩ := Kd.R_slice HO_4.out
                (first | subst eo13 | (injection eo13 with f1_ f2_ f3_; have f4_ := f1_.symm; have f5_ := f3_.symm; clear f1_ f2_ f3_; subst f4_; subst f5_))
                have p151 : 0 ≤ (0 : Int) := (by omega)
                have q151 : 0 < (t143.length : Int) := of_decide_eq_true (by first | (with_reducible assumption) | assumption)
                obtain ⟨ad151, e151, hx151_0⟩ := Kd.at_string (Kd.R_reads' HO_4.out).2.2 0 p151 q151
                cases e151
                have qi151 : (0 < t143.length) = True := eq_true (by omega)
                (try rw [show ((0 : Int)).toNat = 0 from rfl] at hx151_0)
                (try rw [Addr.add_zero'] at hx151_0)
                replace p151 := eq_true p151
                replace q151 := eq_true q151
                refine start_ (n := 8) (S := fun w' => w'.cell? ad151 = some (.string (rdOf ByteArray.empty t143 0))) (ds := []) #[false, false, false, false, false, false, false, false] (by kernel_rfl) rfl rfl hx151_0 (fun hHeld => ?_); refine with_tabW bulkheadref03_Read.tab6 bulkheadref03_Read.bits6 (fun HT_ HW_ => ?_)
                generalize wr.drew = w12 at HO_4 BK142 BK146 HB hx151_0 hHeld ⊢
                refine pure_ (i := 1) (N := some 18) (v := ?_) (a' := ?_) #[false, true, false, false, false, false, false, false] rfl rfl (any_of HT_.out (by kernel_rfl)) (fun _ _ _ h => h) (Or.inl ⟨by rfl, ?_⟩) ?_ ?_
                rotate_left
                · intro w'
                  go_simp
                  with_reducible rfl
                rotate_left
                · simp only [Act.put, List.setIfInBounds_toArray, List.set_cons_zero, List.set_cons_succ, i64_w, i32_w]
                  rfl
                refine pure_ (i := 4) (N := some 21) (v := ?_) (a' := ?_) #[false, true, false, false, true, false, false, false] rfl rfl (any_of HT_.out (by kernel_rfl)) (fun _ _ _ h => h) (Or.inl ⟨by rfl, ?_⟩) ?_ ?_
                rotate_left
                · intro w'
                  go_simp
                  with_reducible rfl
                rotate_left
                · simp only [Act.put, List.setIfInBounds_toArray, List.set_cons_zero, List.set_cons_succ, i64_w, i32_w]
                  rfl
                refine pure_ (i := 5) (N := some 22) (v := ?_) (a' := ?_) #[false, true, false, false, true, true, false, false] rfl rfl (any_of HT_.out (by kernel_rfl)) (fun _ _ _ h => h) (Or.inl ⟨by rfl, ?_⟩) ?_ ?_
                rotate_left
                · intro w'
                  go_simp
                  with_reducible rfl
                rotate_left
                · simp only [Act.put, List.setIfInBounds_toArray, List.set_cons_zero, List.set_cons_succ, i64_w, i32_w]
                  rfl
                refine take_ (i := 6) (N := some 23) (v := ?_) (a' := ?_) #[false, true, false, false, true, true, true, false] rfl rfl (take_ofW HT_.out HW_.out (by kernel_rfl)) (fun _ _ _ h => h) (Or.inl ⟨by rfl, ?_⟩) hHeld ?_ ?_
                rotate_left
                · intro w' s0
                  go_simp
                  with_reducible rfl
                rotate_left
                · simp only [Act.put, List.setIfInBounds_toArray, List.set_cons_zero, List.set_cons_succ, i64_w, i32_w]
                  rfl
                refine one_ (i := 0) (N := some 17) #[true, true, false, false, true, true, true, false] rfl rfl (one_of HT_.out (by kernel_rfl)) (by decide) (fun K hK => ?_)
                refine goes_ Tryd.func30 (by kernel_rfl) rfl #[] (by rfl) rfl rfl (by (try simp only [List.map_toArray, List.map_cons, List.map_nil]); first | done | rfl | (simp only [List.length_drop, List.length_take]; rfl)) ?_
                with_reducible refine (bulkheadref03_names.calls  t147 _ A7.out).mono ?_
                rintro e w14 ⟨v148, rfl, ho0, hb⟩
                have HS0_ := (hb.cell (World.block_lt_of_cell? _ _ (hHeld))).trans (hHeld)
                refine ⟨_, rfl, ?_⟩
                have n0_ := Aside0.mk (Kd.R_elder' (by (with_reducible repeat (first | apply Kd.R_alloc | apply Kd.R_drewN | apply Kd.R_drew)); exact HO_4.out) (Kd.R_base ho0) hb)
                have n1_ := Aside0.mk (Kd.R_lower (Kd.R_new' ho0 (Kd.R_lt (by (with_reducible repeat (first | apply Kd.R_alloc | apply Kd.R_drewN | apply Kd.R_drew)); exact HO_4.out))) (below_size (by repeat (first | (with_reducible first | exact HB.out | apply below_alloc | apply pw_below_drewN | apply below_drew1 | refine below_set ?_ GE142.out | refine below_set ?_ GE146.out) | exact HB.out))))
                have n2_ := Aside0.mk (blk_below (g := gb142) (o := .cells #[.int .u8 0, .int .u8 0, .int .u8 0, .int .u8 0, .int .i32 0] 26 (0, 0)) (by (with_reducible repeat (first | refine blk_drewN ?_ _ | refine blk_drew ?_ | refine blk_alloc ?_ _)); exact BK142.out) hb)
                have n3_ := Aside0.mk (blk_below (g := gb146) (o := .cells #[.int .u8 x147000_1, .int .u8 0, .int .u8 0, .int .u8 0, .int .i32 0] 26 (0, 0)) (by (with_reducible repeat (first | refine blk_drewN ?_ _ | refine blk_drew ?_ | refine blk_alloc ?_ _)); exact BK146.out) hb)
                have n4_ := Aside0.mk (below_step (by repeat (first | (with_reducible first | exact HB.out | apply below_alloc | apply pw_below_drewN | apply below_drew1 | refine below_set ?_ GE142.out | refine below_set ?_ GE146.out) | exact HB.out)) hb)
                clear HO_4
                clear BK142
                clear BK146
                clear HB
                have HO_4 := n0_
                have HO149 := n1_
                have BK142 := n2_
                have BK146 := n3_
                have HB := n4_
                clear n0_ n1_ n2_ n3_ n4_
                (try clear hb)
                (try clear hb2)
                (try clear hk)
                (try clear hi)
                (try clear ho0)
                obtain ⟨Ao15, co15, eo15⟩ := Kd.R_slice HO149.out
                (first | subst eo15 | (injection eo15 with f1_ f2_ f3_; have f4_ := f1_.symm; have f5_ := f3_.symm; clear f1_ f2_ f3_; subst f4_; subst f5_))
                have p150 : 0 ≤ (x6_1 : Int) := of_decide_eq_true (by first | (with_reducible assumption) | assumption)
                have q150 : x6_1 < (t147.length : Int) := of_decide_eq_true (by first | (with_reducible assumption) | assumption)
                obtain ⟨ad150, e150, hx150_0⟩ := Kd.at_string (Kd.R_reads' HO149.out).2.2 x6_1 p150 q150
                cases e150
                replace p150 := eq_true p150
                replace q150 := eq_true q150
                refine hK.out _ _ HS0_ (fun hHeld => ?_)
                clear hK K
                refine norm_ (a' := ?_) ?_ ?_
                rotate_left
                · show Act.put _ (some 17) _ = _
                  simp only [Act.put, List.setIfInBounds_toArray, List.set_cons_zero, List.set_cons_succ, i64_w, i32_w]
                  rfl
                refine pure_ (i := 2) (N := some 19) (v := ?_) (a' := ?_) #[true, true, true, false, true, true, true, false] rfl rfl (any_of HT_.out (by kernel_rfl)) (fun _ _ _ h => h) (Or.inl ⟨by rfl, ?_⟩) ?_ ?_
                rotate_left
                · intro w'
                  go_simp
                  with_reducible rfl
                rotate_left
                · simp only [Act.put, List.setIfInBounds_toArray, List.set_cons_zero, List.set_cons_succ, i64_w, i32_w]
                  rfl
                refine one_ (i := 3) (N := some 20) #[true, true, true, true, true, true, true, false] rfl rfl (one_of HT_.out (by kernel_rfl)) (by decide) (fun K hK => ?_)
                rw [if_pos (by rfl)]
                go_simp
                refine hK.out _ _ hHeld (fun hHeld => ?_)
                clear hK K
                refine pure_ (i := 7) (N := some 24) (v := ?_) (a' := ?_) #[true, true, true, true, true, true, true, true] rfl rfl (any_of HT_.out (by kernel_rfl)) (fun _ _ _ h => h) (Or.inl ⟨by rfl, ?_⟩) ?_ ?_
                rotate_left
                · intro w'
                  go_simp
                  with_reducible rfl
                rotate_left
                · simp only [Act.put, List.setIfInBounds_toArray, List.set_cons_zero, List.set_cons_succ, i64_w, i32_w]
                  rfl
                refine done_ (done_of HT_.out (by kernel_rfl)) ?_
                have hnb16 := NB146_142.out
                have hnc16 := NB142_146.out
                have hcz17_0 : w14.cell? ⟨gb146, 0, none⟩ = some (.int .u8 x147000_1) := (blk_cell BK146.out 0).trans rfl
                have hcz17_1 : w14.cell? ⟨gb146, 1, none⟩ = some (.int .u8 0) := (blk_cell BK146.out 1).trans rfl
                have hcz17_2 : w14.cell? ⟨gb146, 2, none⟩ = some (.int .u8 0) := (blk_cell BK146.out 2).trans rfl
                have hcz17_3 : w14.cell? ⟨gb146, 3, none⟩ = some (.int .u8 0) := (blk_cell BK146.out 3).trans rfl
                have hcz17_4 : w14.cell? ⟨gb146, 4, none⟩ = some (.int .i32 0) := (blk_cell BK146.out 4).trans rfl
                have hfz17_0 := blk_frozen BK146.out 0
                have hfz17_1 := blk_frozen BK146.out 1
                have hfz17_2 := blk_frozen BK146.out 2
                have hfz17_3 := blk_frozen BK146.out 3
                have hfz17_4 := blk_frozen BK146.out 4
                try go_wp2
                go_roundg k1
                case measure => have := HK1.out; omega
                case rel => exact ⟨(wrap64 (x6_1 + 1)), ((x6_1) % 256), (by first | rfl | (simp; done) | (simp [*]; done)), H', ⟨by have := HK1.out; omega⟩, ⟨by (with_reducible repeat (first | apply Kd.R_alloc | apply Kd.R_drewN | apply Kd.R_drew)); exact Kd.R_mono (Kd.R_far (p := ⟨gb146, 0, none⟩) (Kd.R_types HO_4.out BK146.out (by decide)) (fun _ hk => hk.2) (.int .u8 ((x6_1) % 256))) (fun _ hk => trivial)⟩, ⟨by (with_reducible repeat (first | refine blk_drewN ?_ _ | refine blk_drew ?_ | refine blk_alloc ?_ _)); refine blk_far ?_ NB142_146.out _; (with_reducible repeat (first | refine blk_drewN ?_ _ | refine blk_drew ?_ | refine blk_alloc ?_ _)); exact BK142.out⟩, ⟨by (with_reducible repeat (first | refine blk_drewN ?_ _ | refine blk_drew ?_ | refine blk_alloc ?_ _)); refine blk_put (cs := #[.int .u8 x147000_1, .int .u8 0, .int .u8 0, .int .u8 0, .int .i32 0]) ?_ 0 _ rfl; (with_reducible repeat (first | refine blk_drewN ?_ _ | refine blk_drew ?_ | refine blk_alloc ?_ _)); exact BK146.out⟩, ⟨by repeat (first | (with_reducible first | exact HB.out | apply below_alloc | apply pw_below_drewN | apply below_drew1 | refine below_set ?_ GE142.out | refine below_set ?_ GE146.out) | exact HB.out)⟩⟩
              · rw [if_neg c11] at H
                have c11b0 : ((rdOf ByteArray.empty t147 x6_1).toList == (rdOf ByteArray.empty t143 0).toList) = false := beq_eq_false_iff_ne.mpr c11
                have c11b1 : ((rdOf ByteArray.empty t147 x6_1).toList != (rdOf ByteArray.empty t143 0).toList) = true := bne_iff_ne.mpr c11
                have H' := Aside0.mk H
                clear H
                try go_wp2
                have n0_ := Aside0.mk (Kd.R_drew HO_4.out)
                have n1_ := Aside0.mk (blk_drew BK142.out)
                have n2_ := Aside0.mk (blk_drew BK146.out)
                have n3_ := Aside0.mk (below_drew1 HB.out)
                clear HO_4
                clear BK142
                clear BK146
                clear HB
                have HO_4 := n0_
                have BK142 := n1_
                have BK146 := n2_
                have HB := n3_
                clear n0_ n1_ n2_ n3_
                obtain ⟨Ao19, co19, eo19⟩ := Kd.R_slice HO_4.out
                (first | subst eo19 | (injection eo19 with f1_ f2_ f3_; have f4_ := f1_.symm; have f5_ := f3_.symm; clear f1_ f2_ f3_; subst f4_; subst f5_))
                have p151 : 0 ≤ (0 : Int) := (by omega)
                have q151 : 0 < (t143.length : Int) := of_decide_eq_true (by first | (with_reducible assumption) | assumption)
                obtain ⟨ad151, e151, hx151_0⟩ := Kd.at_string (Kd.R_reads' HO_4.out).2.2 0 p151 q151
                cases e151
                have qi151 : (0 < t143.length) = True := eq_true (by omega)
                (try rw [show ((0 : Int)).toNat = 0 from rfl] at hx151_0)
                (try rw [Addr.add_zero'] at hx151_0)
                replace p151 := eq_true p151
                replace q151 := eq_true q151
                refine start_ (n := 8) (S := fun w' => w'.cell? ad151 = some (.string (rdOf ByteArray.empty t143 0))) (ds := []) #[false, false, false, false, false, false, false, false] (by kernel_rfl) rfl rfl hx151_0 (fun hHeld => ?_); refine with_tabW bulkheadref03_Read.tab6 bulkheadref03_Read.bits6 (fun HT_ HW_ => ?_)
                generalize wr.drew = w18 at HO_4 BK142 BK146 HB hx151_0 hHeld ⊢
                refine pure_ (i := 1) (N := some 18) (v := ?_) (a' := ?_) #[false, true, false, false, false, false, false, false] rfl rfl (any_of HT_.out (by kernel_rfl)) (fun _ _ _ h => h) (Or.inl ⟨by rfl, ?_⟩) ?_ ?_
                rotate_left
                · intro w'
                  go_simp
                  with_reducible rfl
                rotate_left
                · simp only [Act.put, List.setIfInBounds_toArray, List.set_cons_zero, List.set_cons_succ, i64_w, i32_w]
                  rfl
                refine pure_ (i := 4) (N := some 21) (v := ?_) (a' := ?_) #[false, true, false, false, true, false, false, false] rfl rfl (any_of HT_.out (by kernel_rfl)) (fun _ _ _ h => h) (Or.inl ⟨by rfl, ?_⟩) ?_ ?_
                rotate_left
                · intro w'
                  go_simp
                  with_reducible rfl
                rotate_left
                · simp only [Act.put, List.setIfInBounds_toArray, List.set_cons_zero, List.set_cons_succ, i64_w, i32_w]
                  rfl
                refine pure_ (i := 5) (N := some 22) (v := ?_) (a' := ?_) #[false, true, false, false, true, true, false, false] rfl rfl (any_of HT_.out (by kernel_rfl)) (fun _ _ _ h => h) (Or.inl ⟨by rfl, ?_⟩) ?_ ?_
                rotate_left
                · intro w'
                  go_simp
                  with_reducible rfl
                rotate_left
                · simp only [Act.put, List.setIfInBounds_toArray, List.set_cons_zero, List.set_cons_succ, i64_w, i32_w]
                  rfl
                refine take_ (i := 6) (N := some 23) (v := ?_) (a' := ?_) #[false, true, false, false, true, true, true, false] rfl rfl (take_ofW HT_.out HW_.out (by kernel_rfl)) (fun _ _ _ h => h) (Or.inl ⟨by rfl, ?_⟩) hHeld ?_ ?_
                rotate_left
                · intro w' s0
                  go_simp
                  with_reducible rfl
                rotate_left
                · simp only [Act.put, List.setIfInBounds_toArray, List.set_cons_zero, List.set_cons_succ, i64_w, i32_w]
                  rfl
                refine one_ (i := 0) (N := some 17) #[true, true, false, false, true, true, true, false] rfl rfl (one_of HT_.out (by kernel_rfl)) (by decide) (fun K hK => ?_)
                refine goes_ Tryd.func30 (by kernel_rfl) rfl #[] (by rfl) rfl rfl (by (try simp only [List.map_toArray, List.map_cons, List.map_nil]); first | done | rfl | (simp only [List.length_drop, List.length_take]; rfl)) ?_
                with_reducible refine (bulkheadref03_names.calls  t147 _ A7.out).mono ?_
                rintro e w20 ⟨v148, rfl, ho0, hb⟩
                have HS0_ := (hb.cell (World.block_lt_of_cell? _ _ (hHeld))).trans (hHeld)
                refine ⟨_, rfl, ?_⟩
                have n0_ := Aside0.mk (Kd.R_elder' (by (with_reducible repeat (first | apply Kd.R_alloc | apply Kd.R_drewN | apply Kd.R_drew)); exact HO_4.out) (Kd.R_base ho0) hb)
                have n1_ := Aside0.mk (Kd.R_lower (Kd.R_new' ho0 (Kd.R_lt (by (with_reducible repeat (first | apply Kd.R_alloc | apply Kd.R_drewN | apply Kd.R_drew)); exact HO_4.out))) (below_size (by repeat (first | (with_reducible first | exact HB.out | apply below_alloc | apply pw_below_drewN | apply below_drew1 | refine below_set ?_ GE142.out | refine below_set ?_ GE146.out) | exact HB.out))))
                have n2_ := Aside0.mk (blk_below (g := gb142) (o := .cells #[.int .u8 0, .int .u8 0, .int .u8 0, .int .u8 0, .int .i32 0] 26 (0, 0)) (by (with_reducible repeat (first | refine blk_drewN ?_ _ | refine blk_drew ?_ | refine blk_alloc ?_ _)); exact BK142.out) hb)
                have n3_ := Aside0.mk (blk_below (g := gb146) (o := .cells #[.int .u8 x147000_1, .int .u8 0, .int .u8 0, .int .u8 0, .int .i32 0] 26 (0, 0)) (by (with_reducible repeat (first | refine blk_drewN ?_ _ | refine blk_drew ?_ | refine blk_alloc ?_ _)); exact BK146.out) hb)
                have n4_ := Aside0.mk (below_step (by repeat (first | (with_reducible first | exact HB.out | apply below_alloc | apply pw_below_drewN | apply below_drew1 | refine below_set ?_ GE142.out | refine below_set ?_ GE146.out) | exact HB.out)) hb)
                clear HO_4
                clear BK142
                clear BK146
                clear HB
                have HO_4 := n0_
                have HO149 := n1_
                have BK142 := n2_
                have BK146 := n3_
                have HB := n4_
                clear n0_ n1_ n2_ n3_ n4_
                (try clear hb)
                (try clear hb2)
                (try clear hk)
                (try clear hi)
                (try clear ho0)
                obtain ⟨Ao21, co21, eo21⟩ := Kd.R_slice HO149.out
                (first | subst eo21 | (injection eo21 with f1_ f2_ f3_; have f4_ := f1_.symm; have f5_ := f3_.symm; clear f1_ f2_ f3_; subst f4_; subst f5_))
                have p150 : 0 ≤ (x6_1 : Int) := of_decide_eq_true (by first | (with_reducible assumption) | assumption)
                have q150 : x6_1 < (t147.length : Int) := of_decide_eq_true (by first | (with_reducible assumption) | assumption)
                obtain ⟨ad150, e150, hx150_0⟩ := Kd.at_string (Kd.R_reads' HO149.out).2.2 x6_1 p150 q150
                cases e150
                replace p150 := eq_true p150
                replace q150 := eq_true q150
                refine hK.out _ _ HS0_ (fun hHeld => ?_)
                clear hK K
                refine norm_ (a' := ?_) ?_ ?_
                rotate_left
                · show Act.put _ (some 17) _ = _
                  simp only [Act.put, List.setIfInBounds_toArray, List.set_cons_zero, List.set_cons_succ, i64_w, i32_w]
                  rfl
                refine pure_ (i := 2) (N := some 19) (v := ?_) (a' := ?_) #[true, true, true, false, true, true, true, false] rfl rfl (any_of HT_.out (by kernel_rfl)) (fun _ _ _ h => h) (Or.inl ⟨by rfl, ?_⟩) ?_ ?_
                rotate_left
                · intro w'
                  go_simp
                  with_reducible rfl
                rotate_left
                · simp only [Act.put, List.setIfInBounds_toArray, List.set_cons_zero, List.set_cons_succ, i64_w, i32_w]
                  rfl
                refine one_ (i := 3) (N := some 20) #[true, true, true, true, true, true, true, false] rfl rfl (one_of HT_.out (by kernel_rfl)) (by decide) (fun K hK => ?_)
                rw [if_pos (by rfl)]
                go_simp
                refine hK.out _ _ hHeld (fun hHeld => ?_)
                clear hK K
                refine pure_ (i := 7) (N := some 24) (v := ?_) (a' := ?_) #[true, true, true, true, true, true, true, true] rfl rfl (any_of HT_.out (by kernel_rfl)) (fun _ _ _ h => h) (Or.inl ⟨by rfl, ?_⟩) ?_ ?_
                rotate_left
                · intro w'
                  go_simp
                  with_reducible rfl
                rotate_left
                · simp only [Act.put, List.setIfInBounds_toArray, List.set_cons_zero, List.set_cons_succ, i64_w, i32_w]
                  rfl
                refine done_ (done_of HT_.out (by kernel_rfl)) ?_
                try go_wp2
                go_roundg k1
                case measure => have := HK1.out; omega
                case rel => exact ⟨(wrap64 (x6_1 + 1)), (x147000_1), (by first | rfl | (simp; done) | (simp [*]; done)), H', ⟨by have := HK1.out; omega⟩, ⟨by (with_reducible repeat (first | apply Kd.R_alloc | apply Kd.R_drewN | apply Kd.R_drew)); exact Kd.R_mono HO_4.out (fun _ hk => trivial)⟩, ⟨by (with_reducible repeat (first | refine blk_drewN ?_ _ | refine blk_drew ?_ | refine blk_alloc ?_ _)); exact BK142.out⟩, ⟨by (with_reducible repeat (first | refine blk_drewN ?_ _ | refine blk_drew ?_ | refine blk_alloc ?_ _)); exact BK146.out⟩, ⟨by repeat (first | (with_reducible first | exact HB.out | apply below_alloc | apply pw_below_drewN | apply below_drew1 | refine below_set ?_ GE142.out | refine below_set ?_ GE146.out) | exact HB.out)⟩⟩
            · rw [if_neg c10] at H
              exact absurd H (by simp)
          · rw [if_neg c9] at H
            exact absurd H (by simp)
        · rw [if_neg c8] at H
          exact absurd H (by simp)
      · rw [if_neg c6] at H
        have c6b0 : decide (x6_1 ≤ 27) = false := decide_eq_false c6
        clear c6
        by_cases c22 : x147000_1 = 0
        · rw [if_pos c22] at H
          have c22b0 : (x147000_1 == 0) = true := beq_iff_eq.mpr c22
          have c22b1 : (x147000_1 != 0) = false := bne_eq_false_iff_eq.mpr c22
          clear c22
          simp only [Option.some.injEq, Prod.mk.injEq] at H
          obtain ⟨rfl, rfl, rfl, rfl, rfl, rfl⟩ := H
          have hnb23 := NB146_142.out
          have hnc23 := NB142_146.out
          have hcz24_0 : wr.cell? ⟨gb146, 0, none⟩ = some (.int .u8 x147000_1) := (blk_cell BK146.out 0).trans rfl
          have hcz24_1 : wr.cell? ⟨gb146, 1, none⟩ = some (.int .u8 0) := (blk_cell BK146.out 1).trans rfl
          have hcz24_2 : wr.cell? ⟨gb146, 2, none⟩ = some (.int .u8 0) := (blk_cell BK146.out 2).trans rfl
          have hcz24_3 : wr.cell? ⟨gb146, 3, none⟩ = some (.int .u8 0) := (blk_cell BK146.out 3).trans rfl
          have hcz24_4 : wr.cell? ⟨gb146, 4, none⟩ = some (.int .i32 0) := (blk_cell BK146.out 4).trans rfl
          have hfz24_0 := blk_frozen BK146.out 0
          have hfz24_1 := blk_frozen BK146.out 1
          have hfz24_2 := blk_frozen BK146.out 2
          have hfz24_3 := blk_frozen BK146.out 3
          have hfz24_4 := blk_frozen BK146.out 4
          have hcz25_0 : wr.cell? ⟨gb142, 0, none⟩ = some (.int .u8 0) := (blk_cell BK142.out 0).trans rfl
          have hcz25_1 : wr.cell? ⟨gb142, 1, none⟩ = some (.int .u8 0) := (blk_cell BK142.out 1).trans rfl
          have hcz25_2 : wr.cell? ⟨gb142, 2, none⟩ = some (.int .u8 0) := (blk_cell BK142.out 2).trans rfl
          have hcz25_3 : wr.cell? ⟨gb142, 3, none⟩ = some (.int .u8 0) := (blk_cell BK142.out 3).trans rfl
          have hcz25_4 : wr.cell? ⟨gb142, 4, none⟩ = some (.int .i32 0) := (blk_cell BK142.out 4).trans rfl
          have hfz25_0 := blk_frozen BK142.out 0
          have hfz25_1 := blk_frozen BK142.out 1
          have hfz25_2 := blk_frozen BK142.out 2
          have hfz25_3 := blk_frozen BK142.out 3
          have hfz25_4 := blk_frozen BK142.out 4
          go_wp2
          refine bodyPost_ret (results_ct rfl _ _ gb142 26 #[.int .u8 0, .int .u8 0, .int .u8 0, .int .u8 0, .int .i32 0] (0, 0) _ rfl (by (with_reducible repeat (first | refine blk_drewN ?_ _ | refine blk_drew ?_ | refine blk_alloc ?_ _)); refine blk_put (cs := #[.int .u8 0, .int .u8 0, .int .u8 0, .int .u8 0, .int .i32 0]) ?_ 4 _ rfl; (with_reducible repeat (first | refine blk_drewN ?_ _ | refine blk_drew ?_ | refine blk_alloc ?_ _)); refine blk_put (cs := #[.int .u8 0, .int .u8 0, .int .u8 0, .int .u8 0, .int .i32 0]) ?_ 3 _ rfl; (with_reducible repeat (first | refine blk_drewN ?_ _ | refine blk_drew ?_ | refine blk_alloc ?_ _)); refine blk_put (cs := #[.int .u8 0, .int .u8 0, .int .u8 0, .int .u8 0, .int .i32 0]) ?_ 2 _ rfl; (with_reducible repeat (first | refine blk_drewN ?_ _ | refine blk_drew ?_ | refine blk_alloc ?_ _)); refine blk_put (cs := #[.int .u8 0, .int .u8 0, .int .u8 0, .int .u8 0, .int .i32 0]) ?_ 1 _ rfl; (with_reducible repeat (first | refine blk_drewN ?_ _ | refine blk_drew ?_ | refine blk_alloc ?_ _)); refine blk_put (cs := #[.int .u8 0, .int .u8 0, .int .u8 0, .int .u8 0, .int .i32 0]) ?_ 0 _ rfl; (with_reducible repeat (first | refine blk_drewN ?_ _ | refine blk_drew ?_ | refine blk_alloc ?_ _)); exact BK142.out) Tryd.underlying26 rfl (by kernel_rfl)) rfl ?_
          exact ⟨by first | rfl | (simp [errW_none, errW_some] <;> rfl) | (simp [*, errW_none, errW_some] <;> rfl), by repeat (first | (with_reducible first | exact HB.out | apply below_alloc | apply pw_below_drewN | apply below_drew1 | refine below_set ?_ GE142.out | refine below_set ?_ GE146.out) | exact HB.out)⟩
        · rw [if_neg c22] at H
          have c22b0 : (x147000_1 == 0) = false := beq_eq_false_iff_ne.mpr c22
          have c22b1 : (x147000_1 != 0) = true := bne_iff_ne.mpr c22
          replace H := Option.bind_eq_some_iff.mp H
          obtain ⟨t152, A260, H⟩ := H
          replace H : (if 0 ≤ (wrap64 (x147000_1)) then (if (wrap64 (x147000_1)) < (t152.length : Int) then (bulkheadref03_Read.l1 k1 a0 t143 (rdOf ByteArray.empty t152 (wrap64 (x147000_1))) 0 x147000_1 0 0 0 0) else (none)) else (none)) = some (r1, r2, r3, r4, r5, r6) := H
          have A26 := Aside0.mk A260
          clear A260
          obtain ⟨ji27, hji27⟩ : ∃ j_ : Int, (wrap64 (x147000_1)) = j_ := ⟨_, rfl⟩
          replace H : (if 0 ≤ (ji27) then (if (ji27) < (t152.length : Int) then (bulkheadref03_Read.l1 k1 a0 t143 (rdOf ByteArray.empty t152 (ji27)) 0 x147000_1 0 0 0 0) else (none)) else (none)) = some (r1, r2, r3, r4, r5, r6) := by first | (rw [hji27] at H; exact H) | (simp only [hji27] at H ⊢; exact H)
          (try rw [hji27] at A26)
          have hji27w : (IntKind.i64.wrap (x147000_1)) = ji27 := (i64_w _).trans hji27
          by_cases c28 : 0 ≤ (ji27)
          · rw [if_pos c28] at H
            have c28b0 : decide (0 ≤ (ji27)) = true := decide_eq_true c28
            clear c28
            by_cases c29 : (ji27) < (t152.length : Int)
            · rw [if_pos c29] at H
              have c29b0 : decide ((ji27) < (t152.length : Int)) = true := decide_eq_true c29
              clear c29
              have H' := Aside0.mk H
              clear H
              have hnb30 := NB146_142.out
              have hnc30 := NB142_146.out
              have hcz31_0 : wr.cell? ⟨gb146, 0, none⟩ = some (.int .u8 x147000_1) := (blk_cell BK146.out 0).trans rfl
              have hcz31_1 : wr.cell? ⟨gb146, 1, none⟩ = some (.int .u8 0) := (blk_cell BK146.out 1).trans rfl
              have hcz31_2 : wr.cell? ⟨gb146, 2, none⟩ = some (.int .u8 0) := (blk_cell BK146.out 2).trans rfl
              have hcz31_3 : wr.cell? ⟨gb146, 3, none⟩ = some (.int .u8 0) := (blk_cell BK146.out 3).trans rfl
              have hcz31_4 : wr.cell? ⟨gb146, 4, none⟩ = some (.int .i32 0) := (blk_cell BK146.out 4).trans rfl
              have hfz31_0 := blk_frozen BK146.out 0
              have hfz31_1 := blk_frozen BK146.out 1
              have hfz31_2 := blk_frozen BK146.out 2
              have hfz31_3 := blk_frozen BK146.out 3
              have hfz31_4 := blk_frozen BK146.out 4
              try go_wp2
              have n0_ := Aside0.mk (Kd.R_drew HO_4.out)
              have n1_ := Aside0.mk (blk_drew BK142.out)
              have n2_ := Aside0.mk (blk_drew BK146.out)
              have n3_ := Aside0.mk (below_drew1 HB.out)
              clear HO_4
              clear BK142
              clear BK146
              clear HB
              have HO_4 := n0_
              have BK142 := n1_
              have BK146 := n2_
              have HB := n3_
              clear n0_ n1_ n2_ n3_
              refine start_ (n := 7) (S := fun w' => w'.cell? ⟨gb146, 0, none⟩ = some (.int .u8 x147000_1) ∧ w'.cell? ⟨gb146, 1, none⟩ = some (.int .u8 0) ∧ w'.cell? ⟨gb146, 2, none⟩ = some (.int .u8 0) ∧ w'.cell? ⟨gb146, 3, none⟩ = some (.int .u8 0) ∧ w'.cell? ⟨gb146, 4, none⟩ = some (.int .i32 0)) (ds := []) #[false, false, false, false, false, false, false] (by kernel_rfl) rfl rfl ⟨(blk_cell BK146.out 0).trans rfl, (blk_cell BK146.out 1).trans rfl, (blk_cell BK146.out 2).trans rfl, (blk_cell BK146.out 3).trans rfl, (blk_cell BK146.out 4).trans rfl⟩ (fun hHeld => ?_)
              generalize wr.drew = w32 at HO_4 BK142 BK146 HB hHeld ⊢
              refine pure_ (i := 1) (N := some 33) (v := ?_) (a' := ?_) #[false, true, false, false, false, false, false] rfl rfl (by kernel_rfl) (fun _ _ _ h => h) (Or.inl ⟨by rfl, ?_⟩) ?_ ?_
              rotate_left
              · intro w'
                go_simp
                with_reducible rfl
              rotate_left
              · simp only [Act.put, List.setIfInBounds_toArray, List.set_cons_zero, List.set_cons_succ, i64_w, i32_w]
                rfl
              refine take_ (i := 2) (N := some 34) (v := ?_) (a' := ?_) #[false, true, true, false, false, false, false] rfl rfl (by kernel_rfl) (fun _ _ _ h => h) (Or.inl ⟨by rfl, ?_⟩) hHeld ?_ ?_
              rotate_left
              · rintro w' ⟨s0, s1, s2, s3, s4⟩
                go_simp
                with_reducible rfl
              rotate_left
              · simp only [Act.put, List.setIfInBounds_toArray, List.set_cons_zero, List.set_cons_succ, i64_w, i32_w]
                rfl
              refine pure_ (i := 3) (N := some 35) (v := ?_) (a' := ?_) #[false, true, true, true, false, false, false] rfl rfl (by kernel_rfl) (fun _ _ _ h => h) (Or.inl ⟨by rfl, ?_⟩) ?_ ?_
              rotate_left
              · intro w'
                go_simp
                with_reducible rfl
              rotate_left
              · simp only [Act.put, List.setIfInBounds_toArray, List.set_cons_zero, List.set_cons_succ, i64_w, i32_w]
                rfl
              refine one_ (i := 0) (N := some 32) #[true, true, true, true, false, false, false] rfl rfl (by kernel_rfl) (by decide) (fun K hK => ?_)
              refine goes_ Tryd.func31 (by kernel_rfl) rfl #[] (by rfl) rfl rfl (by (try simp only [List.map_toArray, List.map_cons, List.map_nil]); first | done | rfl | (simp only [List.length_drop, List.length_take]; rfl)) ?_
              with_reducible refine (bulkheadref03_shapes.calls  t152 _ A26.out).mono ?_
              rintro e w33 ⟨v153, rfl, ho0, hb⟩
              refine ⟨_, rfl, ?_⟩
              have n0_ := Aside0.mk (Kd.R_elder' (by (with_reducible repeat (first | apply Kd.R_alloc | apply Kd.R_drewN | apply Kd.R_drew)); exact HO_4.out) (Kd.R_base ho0) hb)
              have n1_ := Aside0.mk (Kd.R_lower (Kd.R_new' ho0 (Kd.R_lt (by (with_reducible repeat (first | apply Kd.R_alloc | apply Kd.R_drewN | apply Kd.R_drew)); exact HO_4.out))) (below_size (by repeat (first | (with_reducible first | exact HB.out | apply below_alloc | apply pw_below_drewN | apply below_drew1 | refine below_set ?_ GE142.out | refine below_set ?_ GE146.out) | exact HB.out))))
              have n2_ := Aside0.mk (blk_below (g := gb142) (o := .cells #[.int .u8 0, .int .u8 0, .int .u8 0, .int .u8 0, .int .i32 0] 26 (0, 0)) (by (with_reducible repeat (first | refine blk_drewN ?_ _ | refine blk_drew ?_ | refine blk_alloc ?_ _)); exact BK142.out) hb)
              have n3_ := Aside0.mk (blk_below (g := gb146) (o := .cells #[.int .u8 x147000_1, .int .u8 0, .int .u8 0, .int .u8 0, .int .i32 0] 26 (0, 0)) (by (with_reducible repeat (first | refine blk_drewN ?_ _ | refine blk_drew ?_ | refine blk_alloc ?_ _)); exact BK146.out) hb)
              have n4_ := Aside0.mk (below_step (by repeat (first | (with_reducible first | exact HB.out | apply below_alloc | apply pw_below_drewN | apply below_drew1 | refine below_set ?_ GE142.out | refine below_set ?_ GE146.out) | exact HB.out)) hb)
              clear HO_4
              clear BK142
              clear BK146
              clear HB
              have HO_4 := n0_
              have HO154 := n1_
              have BK142 := n2_
              have BK146 := n3_
              have HB := n4_
              clear n0_ n1_ n2_ n3_ n4_
              (try clear hb)
              (try clear hb2)
              (try clear hk)
              (try clear hi)
              (try clear ho0)
              obtain ⟨Ao34, co34, eo34⟩ := Kd.R_slice HO154.out
              (first | subst eo34 | (injection eo34 with f1_ f2_ f3_; have f4_ := f1_.symm; have f5_ := f3_.symm; clear f1_ f2_ f3_; subst f4_; subst f5_))
              have p155 : 0 ≤ ((ji27) : Int) := of_decide_eq_true (by first | (with_reducible assumption) | assumption)
              have q155 : (ji27) < (t152.length : Int) := of_decide_eq_true (by first | (with_reducible assumption) | assumption)
              obtain ⟨ad155, e155, hx155_0⟩ := Kd.at_string (Kd.R_reads' HO154.out).2.2 (ji27) p155 q155
              cases e155
              replace p155 := eq_true p155
              replace q155 := eq_true q155
              refine hK.out _ _ ⟨(blk_cell BK146.out 0).trans rfl, (blk_cell BK146.out 1).trans rfl, (blk_cell BK146.out 2).trans rfl, (blk_cell BK146.out 3).trans rfl, (blk_cell BK146.out 4).trans rfl⟩ (fun hHeld => ?_)
              clear hK K
              refine norm_ (a' := ?_) ?_ ?_
              rotate_left
              · show Act.put _ (some 32) _ = _
                simp only [Act.put, List.setIfInBounds_toArray, List.set_cons_zero, List.set_cons_succ, i64_w, i32_w]
                rfl
              refine pure_ (i := 4) (N := some 36) (v := ?_) (a' := ?_) #[true, true, true, true, true, false, false] rfl rfl (by kernel_rfl) (fun _ _ _ h => h) (Or.inl ⟨by rfl, ?_⟩) ?_ ?_
              rotate_left
              · intro w'
                go_simp
                with_reducible rfl
              rotate_left
              · simp only [Act.put, List.setIfInBounds_toArray, List.set_cons_zero, List.set_cons_succ, i64_w, i32_w]
                rfl
              refine one_ (i := 5) (N := some 37) #[true, true, true, true, true, true, false] rfl rfl (by kernel_rfl) (by decide) (fun K hK => ?_)
              rw [if_pos (by rfl)]
              go_simp
              refine hK.out _ _ hHeld (fun hHeld => ?_)
              clear hK K
              refine pure_ (i := 6) (N := some 7) (v := ?_) (a' := ?_) #[true, true, true, true, true, true, true] rfl rfl (by kernel_rfl) (fun _ _ _ h => h) (Or.inl ⟨by rfl, ?_⟩) ?_ ?_
              rotate_left
              · intro w'
                go_simp
                with_reducible rfl
              rotate_left
              · simp only [Act.put, List.setIfInBounds_toArray, List.set_cons_zero, List.set_cons_succ, i64_w, i32_w]
                rfl
              refine done_ (by kernel_rfl) ?_
              try go_wp2
              go_loopg [8] k1 (fun kq v8 w' => ∃ (x8_2 : Int) (x147000_2 : Int) (x147001_2 : Int) (x147002_2 : Int) (x147003_2 : Int) (x147004_2 : Int), v8 = .int .i64 x8_2 ∧ Aside0 (bulkheadref03_Read.l1 kq a0 t143 (rdOf ByteArray.empty t152 (ji27)) x8_2 x147000_2 x147001_2 x147002_2 x147003_2 x147004_2 = some (r1, r2, r3, r4, r5, r6)) ∧ Aside0 (kq ≤ k1) ∧ Aside0 (Kd.R Kd.string 9 w' w.heap.size (fun _ => True) v144 t143) ∧ Aside0 (w'.heap[gb142]? = some (.cells #[.int .u8 0, .int .u8 0, .int .u8 0, .int .u8 0, .int .i32 0] 26 (0, 0))) ∧ Aside0 (w'.heap[gb146]? = some (.cells #[.int .u8 x147000_2, .int .u8 x147001_2, .int .u8 x147002_2, .int .u8 x147003_2, .int .i32 x147004_2] 26 (0, 0))) ∧ Aside0 (Below w.heap.size w w'))
              case atStart => exact ⟨(0), (x147000_1), (0), (0), (0), (0), (by first | rfl | (simp; done) | (simp [*]; done)), H', ⟨Nat.le_refl _⟩, ⟨by (with_reducible repeat (first | apply Kd.R_alloc | apply Kd.R_drewN | apply Kd.R_drew)); exact Kd.R_mono HO_4.out (fun _ hk => trivial)⟩, ⟨by (with_reducible repeat (first | refine blk_drewN ?_ _ | refine blk_drew ?_ | refine blk_alloc ?_ _)); exact BK142.out⟩, ⟨by (with_reducible repeat (first | refine blk_drewN ?_ _ | refine blk_drew ?_ | refine blk_alloc ?_ _)); exact BK146.out⟩, ⟨by repeat (first | (with_reducible first | exact HB.out | apply below_alloc | apply pw_below_drewN | apply below_drew1 | refine below_set ?_ GE142.out | refine below_set ?_ GE146.out) | exact HB.out)⟩⟩
              case round =>
                clear H'
                try clear c1
                try clear p1
                try clear q1
                try clear hx1
                try clear qi1
                try clear c2
                try clear p2
                try clear c3
                try clear c4
                try clear c6
                try clear c6b0
                try clear p6
                try clear c8
                try clear c8b0
                try clear c9
                try clear c9b0
                try clear c10
                try clear c10b0
                try clear c10b1
                try clear c11
                try clear c11b0
                try clear c11b1
                try clear p15
                try clear q15
                try clear hx15
                try clear qi15
                try clear c16
                try clear c22
                try clear c22b0
                try clear c22b1
                try clear c23
                try clear c28
                try clear c28b0
                try clear c29
                try clear c29b0
                try clear c30
                try clear c31
                try clear hcz17_0
                try clear hcz17_1
                try clear hcz17_2
                try clear hcz17_3
                try clear hcz17_4
                try clear hcz24_0
                try clear hcz24_1
                try clear hcz24_2
                try clear hcz24_3
                try clear hcz24_4
                try clear hcz25_0
                try clear hcz25_1
                try clear hcz25_2
                try clear hcz25_3
                try clear hcz25_4
                try clear hcz31_0
                try clear hcz31_1
                try clear hcz31_2
                try clear hcz31_3
                try clear hcz31_4
                try clear hfz17_0
                try clear hfz17_1
                try clear hfz17_2
                try clear hfz17_3
                try clear hfz17_4
                try clear hfz24_0
                try clear hfz24_1
                try clear hfz24_2
                try clear hfz24_3
                try clear hfz24_4
                try clear hfz25_0
                try clear hfz25_1
                try clear hfz25_2
                try clear hfz25_3
                try clear hfz25_4
                try clear hfz31_0
                try clear hfz31_1
                try clear hfz31_2
                try clear hfz31_3
                try clear hfz31_4
                try clear hx150_0
                try clear hx151_0
                try clear hx155_0
                try clear p150
                try clear p151
                try clear p155
                try clear p2
                try clear q150
                try clear q151
                try clear q155
                obtain ⟨x8_2, x147000_2, x147001_2, x147002_2, x147003_2, x147004_2, rfl, HA, HK2, HO_4, BK142, BK146, HB⟩ := hrel
                cases gk with
                | zero => exact absurd HA.out (by simp [bulkheadref03_Read.l1])
                | succ k2 =>
                  have H := HA.out
                  clear HA
                  simp only [bulkheadref03_Read.l1] at H
                  by_cases c35 : x8_2 < ((rdOf ByteArray.empty t152 (ji27)).size : Int)
                  · rw [if_pos c35] at H
                    have c35b0 : decide (x8_2 < ((rdOf ByteArray.empty t152 (ji27)).size : Int)) = true := decide_eq_true c35
                    clear c35
                    by_cases c36 : (wrap64 (x8_2 + 1)) < (t143.length : Int)
                    · rw [if_pos c36] at H
                      have c36b0 : decide ((wrap64 (x8_2 + 1)) < (t143.length : Int)) = true := decide_eq_true c36
                      clear c36
                      by_cases c37 : 0 ≤ x8_2
                      · rw [if_pos c37] at H
                        have c37b0 : decide (0 ≤ x8_2) = true := decide_eq_true c37
                        clear c37
                        obtain ⟨ji39, hji39⟩ : ∃ j_ : Int, (wrap64 (x8_2 + 1)) = j_ := ⟨_, rfl⟩
                        replace H : (if 0 ≤ (ji39) then ((bulkheadref03_with.f k2 x147000_2 x147001_2 x147002_2 x147003_2 x147004_2 (bt (rdOf ByteArray.empty t152 (ji27)) x8_2) (rdOf ByteArray.empty t143 (ji39))).bind fun bt157 => (bulkheadref03_Read.l1 k2 a0 t143 (rdOf ByteArray.empty t152 (ji27)) ji39 bt157.1 bt157.2.1 bt157.2.2.1 bt157.2.2.2.1 bt157.2.2.2.2)) else (none)) = some (r1, r2, r3, r4, r5, r6) := by first | (rw [hji39] at H; exact H) | (simp only [hji39] at H ⊢; exact H)
                        (try rw [hji39] at c36b0)
                        have hji39w : (IntKind.i64.wrap (x8_2 + 1)) = ji39 := (i64_w _).trans hji39
                        by_cases c40 : 0 ≤ (ji39)
                        · rw [if_pos c40] at H
                          have c40b0 : decide (0 ≤ (ji39)) = true := decide_eq_true c40
                          clear c40
                          replace H := Option.bind_eq_some_iff.mp H
                          obtain ⟨⟨t157, t158, t159, t160, t161⟩, A410, H⟩ := H
                          replace H : (bulkheadref03_Read.l1 k2 a0 t143 (rdOf ByteArray.empty t152 (ji27)) ji39 t157 t158 t159 t160 t161) = some (r1, r2, r3, r4, r5, r6) := H
                          have A41 := Aside0.mk A410
                          clear A410
                          have H' := Aside0.mk H
                          clear H
                          obtain ⟨Ao42, co42, eo42⟩ := Kd.R_slice HO_4.out
                          subst eo42
                          try go_wp2
                          have n0_ := Aside0.mk (Kd.R_drew HO_4.out)
                          have n1_ := Aside0.mk (blk_drew BK142.out)
                          have n2_ := Aside0.mk (blk_drew BK146.out)
                          have n3_ := Aside0.mk (below_drew1 HB.out)
                          clear HO_4
                          clear BK142
                          clear BK146
                          clear HB
                          have HO_4 := n0_
                          have BK142 := n1_
                          have BK146 := n2_
                          have HB := n3_
                          clear n0_ n1_ n2_ n3_
                          have p38 : 0 ≤ (x8_2 : Int) := of_decide_eq_true (by first | (with_reducible assumption) | assumption)
                          have q38 : x8_2 < ((rdOf ByteArray.empty t152 (ji27)).size : Int) := of_decide_eq_true (by first | (with_reducible assumption) | assumption)
                          have hx38 := bt_at (rdOf ByteArray.empty t152 (ji27)) x8_2
                          replace p38 := eq_true p38
                          replace q38 := eq_true q38
                          have p156 : 0 ≤ ((ji39) : Int) := of_decide_eq_true (by first | (with_reducible assumption) | assumption)
                          have q156 : (ji39) < (t143.length : Int) := of_decide_eq_true (by first | (with_reducible assumption) | assumption)
                          obtain ⟨ad156, e156, hx156_0⟩ := Kd.at_string (Kd.R_reads' HO_4.out).2.2 (ji39) p156 q156
                          cases e156
                          replace p156 := eq_true p156
                          replace q156 := eq_true q156
                          refine start_ (n := 11) (S := fun w' => w'.cell? ⟨gb146, 0, none⟩ = some (.int .u8 x147000_2) ∧ w'.cell? ⟨gb146, 1, none⟩ = some (.int .u8 x147001_2) ∧ w'.cell? ⟨gb146, 2, none⟩ = some (.int .u8 x147002_2) ∧ w'.cell? ⟨gb146, 3, none⟩ = some (.int .u8 x147003_2) ∧ w'.cell? ⟨gb146, 4, none⟩ = some (.int .i32 x147004_2) ∧ w'.cell? (ad156.add ((ji39)).toNat) = some (.string (rdOf ByteArray.empty t143 (ji39)))) (ds := [10]) #[false, false, false, false, false, false, false, false, false, false, false] (by kernel_rfl) rfl rfl ⟨(blk_cell BK146.out 0).trans rfl, (blk_cell BK146.out 1).trans rfl, (blk_cell BK146.out 2).trans rfl, (blk_cell BK146.out 3).trans rfl, (blk_cell BK146.out 4).trans rfl, hx156_0⟩ (fun hHeld => ?_); refine with_tabW bulkheadref03_Read.tab14 bulkheadref03_Read.bits14 (fun HT_ HW_ => ?_)
                          generalize wr.drew = w43 at HO_4 BK142 BK146 HB hx156_0 hHeld ⊢
                          refine pure_ (i := 1) (N := some 52) (v := ?_) (a' := ?_) #[false, true, false, false, false, false, false, false, false, false, false] rfl rfl (any_of HT_.out (by kernel_rfl)) (fun _ _ _ h => h) (Or.inl ⟨by rfl, ?_⟩) ?_ ?_
                          rotate_left
                          · intro w'
                            go_simp
                            with_reducible rfl
                          rotate_left
                          · simp only [Act.put, List.setIfInBounds_toArray, List.set_cons_zero, List.set_cons_succ, i64_w, i32_w]
                            rfl
                          refine pure_ (i := 2) (N := some 53) (v := ?_) (a' := ?_) #[false, true, true, false, false, false, false, false, false, false, false] rfl rfl (any_of HT_.out (by kernel_rfl)) (fun _ _ _ h => h) (Or.inl ⟨by rfl, ?_⟩) ?_ ?_
                          rotate_left
                          · intro w'
                            go_simp
                            with_reducible rfl
                          rotate_left
                          · simp only [Act.put, List.setIfInBounds_toArray, List.set_cons_zero, List.set_cons_succ, i64_w, i32_w]
                            rfl
                          refine pure_ (i := 4) (N := some 55) (v := ?_) (a' := ?_) #[false, true, true, false, true, false, false, false, false, false, false] rfl rfl (any_of HT_.out (by kernel_rfl)) (fun _ _ _ h => h) (Or.inl ⟨by rfl, ?_⟩) ?_ ?_
                          rotate_left
                          · intro w'
                            go_simp
                            with_reducible rfl
                          rotate_left
                          · simp only [Act.put, List.setIfInBounds_toArray, List.set_cons_zero, List.set_cons_succ, i64_w, i32_w]
                            rfl
                          refine pure_ (i := 5) (N := some 56) (v := ?_) (a' := ?_) #[false, true, true, false, true, true, false, false, false, false, false] rfl rfl (any_of HT_.out (by kernel_rfl)) (fun _ _ _ h => h) (Or.inl ⟨by rfl, ?_⟩) ?_ ?_
                          rotate_left
                          · intro w'
                            go_simp
                            with_reducible rfl
                          rotate_left
                          · simp only [Act.put, List.setIfInBounds_toArray, List.set_cons_zero, List.set_cons_succ, i64_w, i32_w]
                            rfl
                          refine pure_ (i := 6) (N := some 57) (v := ?_) (a' := ?_) #[false, true, true, false, true, true, true, false, false, false, false] rfl rfl (any_of HT_.out (by kernel_rfl)) (fun _ _ _ h => h) (Or.inl ⟨by rfl, ?_⟩) ?_ ?_
                          rotate_left
                          · intro w'
                            go_simp
                            with_reducible rfl
                          rotate_left
                          · simp only [Act.put, List.setIfInBounds_toArray, List.set_cons_zero, List.set_cons_succ, i64_w, i32_w]
                            rfl
                          refine pure_ (i := 7) (N := some 58) (v := ?_) (a' := ?_) #[false, true, true, false, true, true, true, true, false, false, false] rfl rfl (any_of HT_.out (by kernel_rfl)) (fun _ _ _ h => h) (Or.inl ⟨by rfl, ?_⟩) ?_ ?_
                          rotate_left
                          · intro w'
                            go_simp
                            with_reducible rfl
                          rotate_left
                          · simp only [Act.put, List.setIfInBounds_toArray, List.set_cons_zero, List.set_cons_succ, i64_w, i32_w]
                            rfl
                          refine take_ (i := 0) (N := some 51) (v := ?_) (a' := ?_) #[true, true, true, false, true, true, true, true, false, false, false] rfl rfl (take_ofW HT_.out HW_.out (by kernel_rfl)) (fun _ _ _ h => h) (Or.inl ⟨by rfl, ?_⟩) hHeld ?_ ?_
                          rotate_left
                          · rintro w' ⟨s0, s1, s2, s3, s4, s5⟩
                            go_simp
                            with_reducible rfl
                          rotate_left
                          · simp only [Act.put, List.setIfInBounds_toArray, List.set_cons_zero, List.set_cons_succ, i64_w, i32_w]
                            rfl
                          refine take_ (i := 3) (N := some 54) (v := ?_) (a' := ?_) #[true, true, true, true, true, true, true, true, false, false, false] rfl rfl (take_ofW HT_.out HW_.out (by kernel_rfl)) (fun _ _ _ h => h) (Or.inl ⟨by rfl, ?_⟩) hHeld ?_ ?_
                          rotate_left
                          · rintro w' ⟨s0, s1, s2, s3, s4, s5⟩
                            go_simp
                            with_reducible rfl
                          rotate_left
                          · simp only [Act.put, List.setIfInBounds_toArray, List.set_cons_zero, List.set_cons_succ, i64_w, i32_w]
                            rfl
                          refine take_ (i := 8) (N := some 59) (v := ?_) (a' := ?_) #[true, true, true, true, true, true, true, true, true, false, false] rfl rfl (take_ofW HT_.out HW_.out (by kernel_rfl)) (fun _ _ _ h => h) (Or.inl ⟨by rfl, ?_⟩) hHeld ?_ ?_
                          rotate_left
                          · rintro w' ⟨s0, s1, s2, s3, s4, s5⟩
                            go_simp
                            with_reducible rfl
                          rotate_left
                          · simp only [Act.put, List.setIfInBounds_toArray, List.set_cons_zero, List.set_cons_succ, i64_w, i32_w]
                            rfl
                          refine one_ (i := 9) (N := some 60) #[true, true, true, true, true, true, true, true, true, true, false] rfl rfl (one_of HT_.out (by kernel_rfl)) (by decide) (fun K hK => ?_)
                          refine goes_ Tryd.func44 (by kernel_rfl) rfl #[.agg #[.int .u8 x147000_2, .int .u8 x147001_2, .int .u8 x147002_2, .int .u8 x147003_2, .int .i32 x147004_2], .int .u8 (bt (rdOf ByteArray.empty t152 (ji27)) x8_2), .string (rdOf ByteArray.empty t143 (ji39))] (by rfl) rfl rfl (by (try simp only [List.map_toArray, List.map_cons, List.map_nil]); first | done | (simp only [hji27, hji39]; rfl) | rfl | (simp only [List.length_drop, List.length_take]; rfl)) ?_
                          with_reducible refine (bulkheadref03_with.calls k2 x147000_2 x147001_2 x147002_2 x147003_2 x147004_2 (bt (rdOf ByteArray.empty t152 (ji27)) x8_2) (rdOf ByteArray.empty t143 (ji39)) t157 t158 t159 t160 t161 _ A41.out).mono ?_
                          rintro e w44 ⟨rfl, hb⟩
                          have HS5_ := (hb.cell (World.block_lt_of_cell? _ _ (hHeld.2.2.2.2.2))).trans (hHeld.2.2.2.2.2)
                          refine ⟨_, rfl, ?_⟩
                          have n0_ := Aside0.mk (Kd.R_below (by (with_reducible repeat (first | apply Kd.R_alloc | apply Kd.R_drewN | apply Kd.R_drew)); exact HO_4.out) hb)
                          have n1_ := Aside0.mk (blk_below (g := gb142) (o := .cells #[.int .u8 0, .int .u8 0, .int .u8 0, .int .u8 0, .int .i32 0] 26 (0, 0)) (by (with_reducible repeat (first | refine blk_drewN ?_ _ | refine blk_drew ?_ | refine blk_alloc ?_ _)); exact BK142.out) hb)
                          have n2_ := Aside0.mk (blk_below (g := gb146) (o := .cells #[.int .u8 x147000_2, .int .u8 x147001_2, .int .u8 x147002_2, .int .u8 x147003_2, .int .i32 x147004_2] 26 (0, 0)) (by (with_reducible repeat (first | refine blk_drewN ?_ _ | refine blk_drew ?_ | refine blk_alloc ?_ _)); exact BK146.out) hb)
                          have n3_ := Aside0.mk (below_step (by repeat (first | (with_reducible first | exact HB.out | apply below_alloc | apply pw_below_drewN | apply below_drew1 | refine below_set ?_ GE142.out | refine below_set ?_ GE146.out) | exact HB.out)) hb)
                          clear HO_4
                          clear BK142
                          clear BK146
                          clear HB
                          have HO_4 := n0_
                          have BK142 := n1_
                          have BK146 := n2_
                          have HB := n3_
                          clear n0_ n1_ n2_ n3_
                          (try clear hb)
                          (try clear hb2)
                          (try clear hk)
                          (try clear hi)
                          refine hK.out _ _ ⟨(blk_cell BK146.out 0).trans rfl, (blk_cell BK146.out 1).trans rfl, (blk_cell BK146.out 2).trans rfl, (blk_cell BK146.out 3).trans rfl, (blk_cell BK146.out 4).trans rfl, HS5_⟩ (fun hHeld => ?_)
                          clear hK K
                          refine norm_ (a' := ?_) ?_ ?_
                          rotate_left
                          · show Act.put _ (some 60) _ = _
                            simp only [Act.put, List.setIfInBounds_toArray, List.set_cons_zero, List.set_cons_succ, i64_w, i32_w]
                            rfl
                          refine last_ (i := 10) (N := none) #[true, true, true, true, true, true, true, true, true, true, true] rfl rfl (one_of HT_.out (by kernel_rfl)) (by decide) (fun K hK => ?_)
                          have hs45 : w44.cell? ⟨gb146, 0, none⟩ = some (.int .u8 x147000_2) := (blk_cell BK146.out 0).trans rfl
                          have hfs45 := blk_frozen BK146.out 0
                          have hns45_0 := NB142_146.out
                          have hms45_0 := NB146_142.out
                          have hs46 : w44.cell? ⟨gb146, 1, none⟩ = some (.int .u8 x147001_2) := (blk_cell BK146.out 1).trans rfl
                          have hfs46 := blk_frozen BK146.out 1
                          have hns46_0 := NB142_146.out
                          have hms46_0 := NB146_142.out
                          have hs47 : w44.cell? ⟨gb146, 2, none⟩ = some (.int .u8 x147002_2) := (blk_cell BK146.out 2).trans rfl
                          have hfs47 := blk_frozen BK146.out 2
                          have hns47_0 := NB142_146.out
                          have hms47_0 := NB146_142.out
                          have hs48 : w44.cell? ⟨gb146, 3, none⟩ = some (.int .u8 x147003_2) := (blk_cell BK146.out 3).trans rfl
                          have hfs48 := blk_frozen BK146.out 3
                          have hns48_0 := NB142_146.out
                          have hms48_0 := NB146_142.out
                          have hs49 : w44.cell? ⟨gb146, 4, none⟩ = some (.int .i32 x147004_2) := (blk_cell BK146.out 4).trans rfl
                          have hfs49 := blk_frozen BK146.out 4
                          have hns49_0 := NB142_146.out
                          have hms49_0 := NB146_142.out
                          refine skip_ (w1 := ?_) (by rfl) rfl ?_ ?_
                          rotate_left
                          · go_simp
                            rfl
                          refine hK.out _ _ ?_
                          clear hK K
                          refine done_ (done_of HT_.out (by kernel_rfl)) ?_
                          try go_wp2
                          go_roundg k2
                          case measure => have := HK1.out; have := HK2.out; omega
                          case rel => exact ⟨(ji39), (t157), (t158), (t159), (t160), (t161), (by first | rfl | (simp; done) | (simp only [← hji39] <;> (first | rfl | simp)) | (simp [*]; done)), H', ⟨by have := HK1.out; have := HK2.out; omega⟩, ⟨by (with_reducible repeat (first | apply Kd.R_alloc | apply Kd.R_drewN | apply Kd.R_drew)); exact Kd.R_mono (Kd.R_far (p := ⟨gb146, 4, none⟩) (Kd.R_far (p := ⟨gb146, 3, none⟩) (Kd.R_far (p := ⟨gb146, 2, none⟩) (Kd.R_far (p := ⟨gb146, 1, none⟩) (Kd.R_far (p := ⟨gb146, 0, none⟩) (Kd.R_types HO_4.out BK146.out (by decide)) (fun _ hk => hk.2) (.int .u8 t157)) (fun _ hk => hk.2) (.int .u8 t158)) (fun _ hk => hk.2) (.int .u8 t159)) (fun _ hk => hk.2) (.int .u8 t160)) (fun _ hk => hk.2) (.int .i32 t161)) (fun _ hk => trivial)⟩, ⟨by (with_reducible repeat (first | refine blk_drewN ?_ _ | refine blk_drew ?_ | refine blk_alloc ?_ _)); refine blk_far ?_ NB142_146.out _; (with_reducible repeat (first | refine blk_drewN ?_ _ | refine blk_drew ?_ | refine blk_alloc ?_ _)); refine blk_far ?_ NB142_146.out _; (with_reducible repeat (first | refine blk_drewN ?_ _ | refine blk_drew ?_ | refine blk_alloc ?_ _)); refine blk_far ?_ NB142_146.out _; (with_reducible repeat (first | refine blk_drewN ?_ _ | refine blk_drew ?_ | refine blk_alloc ?_ _)); refine blk_far ?_ NB142_146.out _; (with_reducible repeat (first | refine blk_drewN ?_ _ | refine blk_drew ?_ | refine blk_alloc ?_ _)); refine blk_far ?_ NB142_146.out _; (with_reducible repeat (first | refine blk_drewN ?_ _ | refine blk_drew ?_ | refine blk_alloc ?_ _)); exact BK142.out⟩, ⟨by (with_reducible repeat (first | refine blk_drewN ?_ _ | refine blk_drew ?_ | refine blk_alloc ?_ _)); refine blk_put (cs := #[.int .u8 t157, .int .u8 t158, .int .u8 t159, .int .u8 t160, .int .i32 x147004_2]) ?_ 4 _ rfl; (with_reducible repeat (first | refine blk_drewN ?_ _ | refine blk_drew ?_ | refine blk_alloc ?_ _)); refine blk_put (cs := #[.int .u8 t157, .int .u8 t158, .int .u8 t159, .int .u8 x147003_2, .int .i32 x147004_2]) ?_ 3 _ rfl; (with_reducible repeat (first | refine blk_drewN ?_ _ | refine blk_drew ?_ | refine blk_alloc ?_ _)); refine blk_put (cs := #[.int .u8 t157, .int .u8 t158, .int .u8 x147002_2, .int .u8 x147003_2, .int .i32 x147004_2]) ?_ 2 _ rfl; (with_reducible repeat (first | refine blk_drewN ?_ _ | refine blk_drew ?_ | refine blk_alloc ?_ _)); refine blk_put (cs := #[.int .u8 t157, .int .u8 x147001_2, .int .u8 x147002_2, .int .u8 x147003_2, .int .i32 x147004_2]) ?_ 1 _ rfl; (with_reducible repeat (first | refine blk_drewN ?_ _ | refine blk_drew ?_ | refine blk_alloc ?_ _)); refine blk_put (cs := #[.int .u8 x147000_2, .int .u8 x147001_2, .int .u8 x147002_2, .int .u8 x147003_2, .int .i32 x147004_2]) ?_ 0 _ rfl; (with_reducible repeat (first | refine blk_drewN ?_ _ | refine blk_drew ?_ | refine blk_alloc ?_ _)); exact BK146.out⟩, ⟨by repeat (first | (with_reducible first | exact HB.out | apply below_alloc | apply pw_below_drewN | apply below_drew1 | refine below_set ?_ GE142.out | refine below_set ?_ GE146.out) | exact HB.out)⟩⟩
                        · rw [if_neg c40] at H
                          exact absurd H (by simp)
                      · rw [if_neg c37] at H
                        exact absurd H (by simp)
                    · rw [if_neg c36] at H
                      have c36b0 : decide ((wrap64 (x8_2 + 1)) < (t143.length : Int)) = false := decide_eq_false c36
                      clear c36
                      replace H := Option.bind_eq_some_iff.mp H
                      obtain ⟨⟨t162, t163⟩, A500, H⟩ := H
                      replace H : (if t162.toList = a0.toList then (some (x147000_2, x147001_2, x147002_2, x147003_2, x147004_2, 0)) else (some (0, 0, 0, 0, 0, 41))) = some (r1, r2, r3, r4, r5, r6) := H
                      have A50 := Aside0.mk A500
                      clear A500
                      by_cases c51 : t162.toList = a0.toList
                      · rw [if_pos c51] at H
                        have c51b0 : (t162.toList == a0.toList) = true := beq_iff_eq.mpr c51
                        have c51b1 : (t162.toList != a0.toList) = false := bne_eq_false_iff_eq.mpr c51
                        clear c51
                        simp only [Option.some.injEq, Prod.mk.injEq] at H
                        obtain ⟨rfl, rfl, rfl, rfl, rfl, rfl⟩ := H
                        obtain ⟨Ao52, co52, eo52⟩ := Kd.R_slice HO_4.out
                        subst eo52
                        have hnb53 := NB146_142.out
                        have hnc53 := NB142_146.out
                        have hcz54_0 : wr.cell? ⟨gb146, 0, none⟩ = some (.int .u8 x147000_2) := (blk_cell BK146.out 0).trans rfl
                        have hcz54_1 : wr.cell? ⟨gb146, 1, none⟩ = some (.int .u8 x147001_2) := (blk_cell BK146.out 1).trans rfl
                        have hcz54_2 : wr.cell? ⟨gb146, 2, none⟩ = some (.int .u8 x147002_2) := (blk_cell BK146.out 2).trans rfl
                        have hcz54_3 : wr.cell? ⟨gb146, 3, none⟩ = some (.int .u8 x147003_2) := (blk_cell BK146.out 3).trans rfl
                        have hcz54_4 : wr.cell? ⟨gb146, 4, none⟩ = some (.int .i32 x147004_2) := (blk_cell BK146.out 4).trans rfl
                        have hfz54_0 := blk_frozen BK146.out 0
                        have hfz54_1 := blk_frozen BK146.out 1
                        have hfz54_2 := blk_frozen BK146.out 2
                        have hfz54_3 := blk_frozen BK146.out 3
                        have hfz54_4 := blk_frozen BK146.out 4
                        go_wp2_with (first | ((with_reducible refine gate_callee (f := 22) rfl ?_); refine goesL_ (some 63) rfl rfl Tryd.func22 (by kernel_rfl) rfl #[.agg #[.int .u8 x147000_2, .int .u8 x147001_2, .int .u8 x147002_2, .int .u8 x147003_2, .int .i32 x147004_2]] rfl (by (try simp only [List.map_toArray, List.map_cons, List.map_nil]); first | done | rfl | (simp only [List.length_drop, List.length_take]; rfl)) ?_; (with_reducible refine (bulkheadref03_Show.calls x147000_2 x147001_2 x147002_2 x147003_2 x147004_2 t162 t163 _ A50.out).mono ?_); rintro e w55 ⟨rfl, hb⟩; refine ⟨_, rfl, ?_⟩; have n0_ := Aside0.mk (Kd.R_below (by (with_reducible repeat (first | apply Kd.R_alloc | apply Kd.R_drewN | apply Kd.R_drew)); exact HO_4.out) hb); have n1_ := Aside0.mk (blk_below (g := gb142) (o := .cells #[.int .u8 0, .int .u8 0, .int .u8 0, .int .u8 0, .int .i32 0] 26 (0, 0)) (by (with_reducible repeat (first | refine blk_drewN ?_ _ | refine blk_drew ?_ | refine blk_alloc ?_ _)); exact BK142.out) hb); have n2_ := Aside0.mk (blk_below (g := gb146) (o := .cells #[.int .u8 x147000_2, .int .u8 x147001_2, .int .u8 x147002_2, .int .u8 x147003_2, .int .i32 x147004_2] 26 (0, 0)) (by (with_reducible repeat (first | refine blk_drewN ?_ _ | refine blk_drew ?_ | refine blk_alloc ?_ _)); exact BK146.out) hb); have n3_ := Aside0.mk (below_step (by repeat (first | (with_reducible first | exact HB.out | apply below_alloc | apply pw_below_drewN | apply below_drew1 | refine below_set ?_ GE142.out | refine below_set ?_ GE146.out) | exact HB.out)) hb); clear HO_4; clear BK142; clear BK146; clear HB; have HO_4 := n0_; have BK142 := n1_; have BK146 := n2_; have HB := n3_; clear n0_ n1_ n2_ n3_; (try clear hb); (try clear hb2); (try clear hk); (try clear hi); have hcz56_0 : w55.cell? ⟨gb146, 0, none⟩ = some (.int .u8 x147000_2) := (blk_cell BK146.out 0).trans rfl; have hcz56_1 : w55.cell? ⟨gb146, 1, none⟩ = some (.int .u8 x147001_2) := (blk_cell BK146.out 1).trans rfl; have hcz56_2 : w55.cell? ⟨gb146, 2, none⟩ = some (.int .u8 x147002_2) := (blk_cell BK146.out 2).trans rfl; have hcz56_3 : w55.cell? ⟨gb146, 3, none⟩ = some (.int .u8 x147003_2) := (blk_cell BK146.out 3).trans rfl; have hcz56_4 : w55.cell? ⟨gb146, 4, none⟩ = some (.int .i32 x147004_2) := (blk_cell BK146.out 4).trans rfl; have hfz56_0 := blk_frozen BK146.out 0; have hfz56_1 := blk_frozen BK146.out 1; have hfz56_2 := blk_frozen BK146.out 2; have hfz56_3 := blk_frozen BK146.out 3; have hfz56_4 := blk_frozen BK146.out 4; have hcz57_0 : w55.cell? ⟨gb142, 0, none⟩ = some (.int .u8 0) := (blk_cell BK142.out 0).trans rfl; have hcz57_1 : w55.cell? ⟨gb142, 1, none⟩ = some (.int .u8 0) := (blk_cell BK142.out 1).trans rfl; have hcz57_2 : w55.cell? ⟨gb142, 2, none⟩ = some (.int .u8 0) := (blk_cell BK142.out 2).trans rfl; have hcz57_3 : w55.cell? ⟨gb142, 3, none⟩ = some (.int .u8 0) := (blk_cell BK142.out 3).trans rfl; have hcz57_4 : w55.cell? ⟨gb142, 4, none⟩ = some (.int .i32 0) := (blk_cell BK142.out 4).trans rfl; have hfz57_0 := blk_frozen BK142.out 0; have hfz57_1 := blk_frozen BK142.out 1; have hfz57_2 := blk_frozen BK142.out 2; have hfz57_3 := blk_frozen BK142.out 3; have hfz57_4 := blk_frozen BK142.out 4))
                        refine bodyPost_ret (results_ct rfl _ _ gb142 26 #[.int .u8 x147000_2, .int .u8 x147001_2, .int .u8 x147002_2, .int .u8 x147003_2, .int .i32 x147004_2] (0, 0) _ rfl (by (with_reducible repeat (first | refine blk_drewN ?_ _ | refine blk_drew ?_ | refine blk_alloc ?_ _)); refine blk_put (cs := #[.int .u8 x147000_2, .int .u8 x147001_2, .int .u8 x147002_2, .int .u8 x147003_2, .int .i32 0]) ?_ 4 _ rfl; (with_reducible repeat (first | refine blk_drewN ?_ _ | refine blk_drew ?_ | refine blk_alloc ?_ _)); refine blk_put (cs := #[.int .u8 x147000_2, .int .u8 x147001_2, .int .u8 x147002_2, .int .u8 0, .int .i32 0]) ?_ 3 _ rfl; (with_reducible repeat (first | refine blk_drewN ?_ _ | refine blk_drew ?_ | refine blk_alloc ?_ _)); refine blk_put (cs := #[.int .u8 x147000_2, .int .u8 x147001_2, .int .u8 0, .int .u8 0, .int .i32 0]) ?_ 2 _ rfl; (with_reducible repeat (first | refine blk_drewN ?_ _ | refine blk_drew ?_ | refine blk_alloc ?_ _)); refine blk_put (cs := #[.int .u8 x147000_2, .int .u8 0, .int .u8 0, .int .u8 0, .int .i32 0]) ?_ 1 _ rfl; (with_reducible repeat (first | refine blk_drewN ?_ _ | refine blk_drew ?_ | refine blk_alloc ?_ _)); refine blk_put (cs := #[.int .u8 0, .int .u8 0, .int .u8 0, .int .u8 0, .int .i32 0]) ?_ 0 _ rfl; (with_reducible repeat (first | refine blk_drewN ?_ _ | refine blk_drew ?_ | refine blk_alloc ?_ _)); exact BK142.out) Tryd.underlying26 rfl (by kernel_rfl)) rfl ?_
                        exact ⟨by first | rfl | (simp [errW_none, errW_some] <;> rfl) | (simp only [← hji27]; first | rfl | (simp [errW_none, errW_some] <;> rfl)) | (simp [*, errW_none, errW_some] <;> rfl), by repeat (first | (with_reducible first | exact HB.out | apply below_alloc | apply pw_below_drewN | apply below_drew1 | refine below_set ?_ GE142.out | refine below_set ?_ GE146.out) | exact HB.out)⟩
                      · rw [if_neg c51] at H
                        have c51b0 : (t162.toList == a0.toList) = false := beq_eq_false_iff_ne.mpr c51
                        have c51b1 : (t162.toList != a0.toList) = true := bne_iff_ne.mpr c51
                        simp only [Option.some.injEq, Prod.mk.injEq] at H
                        obtain ⟨rfl, rfl, rfl, rfl, rfl, rfl⟩ := H
                        obtain ⟨Ao58, co58, eo58⟩ := Kd.R_slice HO_4.out
                        subst eo58
                        have hnb59 := NB146_142.out
                        have hnc59 := NB142_146.out
                        have hcz60_0 : wr.cell? ⟨gb146, 0, none⟩ = some (.int .u8 x147000_2) := (blk_cell BK146.out 0).trans rfl
                        have hcz60_1 : wr.cell? ⟨gb146, 1, none⟩ = some (.int .u8 x147001_2) := (blk_cell BK146.out 1).trans rfl
                        have hcz60_2 : wr.cell? ⟨gb146, 2, none⟩ = some (.int .u8 x147002_2) := (blk_cell BK146.out 2).trans rfl
                        have hcz60_3 : wr.cell? ⟨gb146, 3, none⟩ = some (.int .u8 x147003_2) := (blk_cell BK146.out 3).trans rfl
                        have hcz60_4 : wr.cell? ⟨gb146, 4, none⟩ = some (.int .i32 x147004_2) := (blk_cell BK146.out 4).trans rfl
                        have hfz60_0 := blk_frozen BK146.out 0
                        have hfz60_1 := blk_frozen BK146.out 1
                        have hfz60_2 := blk_frozen BK146.out 2
                        have hfz60_3 := blk_frozen BK146.out 3
                        have hfz60_4 := blk_frozen BK146.out 4
                        go_wp2_with (first | ((with_reducible refine gate_callee (f := 22) rfl ?_); refine goesL_ (some 63) rfl rfl Tryd.func22 (by kernel_rfl) rfl #[.agg #[.int .u8 x147000_2, .int .u8 x147001_2, .int .u8 x147002_2, .int .u8 x147003_2, .int .i32 x147004_2]] rfl (by (try simp only [List.map_toArray, List.map_cons, List.map_nil]); first | done | rfl | (simp only [List.length_drop, List.length_take]; rfl)) ?_; (with_reducible refine (bulkheadref03_Show.calls x147000_2 x147001_2 x147002_2 x147003_2 x147004_2 t162 t163 _ A50.out).mono ?_); rintro e w61 ⟨rfl, hb⟩; refine ⟨_, rfl, ?_⟩; have n0_ := Aside0.mk (Kd.R_below (by (with_reducible repeat (first | apply Kd.R_alloc | apply Kd.R_drewN | apply Kd.R_drew)); exact HO_4.out) hb); have n1_ := Aside0.mk (blk_below (g := gb142) (o := .cells #[.int .u8 0, .int .u8 0, .int .u8 0, .int .u8 0, .int .i32 0] 26 (0, 0)) (by (with_reducible repeat (first | refine blk_drewN ?_ _ | refine blk_drew ?_ | refine blk_alloc ?_ _)); exact BK142.out) hb); have n2_ := Aside0.mk (blk_below (g := gb146) (o := .cells #[.int .u8 x147000_2, .int .u8 x147001_2, .int .u8 x147002_2, .int .u8 x147003_2, .int .i32 x147004_2] 26 (0, 0)) (by (with_reducible repeat (first | refine blk_drewN ?_ _ | refine blk_drew ?_ | refine blk_alloc ?_ _)); exact BK146.out) hb); have n3_ := Aside0.mk (below_step (by repeat (first | (with_reducible first | exact HB.out | apply below_alloc | apply pw_below_drewN | apply below_drew1 | refine below_set ?_ GE142.out | refine below_set ?_ GE146.out) | exact HB.out)) hb); clear HO_4; clear BK142; clear BK146; clear HB; have HO_4 := n0_; have BK142 := n1_; have BK146 := n2_; have HB := n3_; clear n0_ n1_ n2_ n3_; (try clear hb); (try clear hb2); (try clear hk); (try clear hi); have hcz62_0 : w61.cell? ⟨gb142, 0, none⟩ = some (.int .u8 0) := (blk_cell BK142.out 0).trans rfl; have hcz62_1 : w61.cell? ⟨gb142, 1, none⟩ = some (.int .u8 0) := (blk_cell BK142.out 1).trans rfl; have hcz62_2 : w61.cell? ⟨gb142, 2, none⟩ = some (.int .u8 0) := (blk_cell BK142.out 2).trans rfl; have hcz62_3 : w61.cell? ⟨gb142, 3, none⟩ = some (.int .u8 0) := (blk_cell BK142.out 3).trans rfl; have hcz62_4 : w61.cell? ⟨gb142, 4, none⟩ = some (.int .i32 0) := (blk_cell BK142.out 4).trans rfl; have hfz62_0 := blk_frozen BK142.out 0; have hfz62_1 := blk_frozen BK142.out 1; have hfz62_2 := blk_frozen BK142.out 2; have hfz62_3 := blk_frozen BK142.out 3; have hfz62_4 := blk_frozen BK142.out 4))
                        refine bodyPost_ret (results_ct rfl _ _ gb142 26 #[.int .u8 0, .int .u8 0, .int .u8 0, .int .u8 0, .int .i32 0] (0, 0) _ rfl (by (with_reducible repeat (first | refine blk_drewN ?_ _ | refine blk_drew ?_ | refine blk_alloc ?_ _)); refine blk_put (cs := #[.int .u8 0, .int .u8 0, .int .u8 0, .int .u8 0, .int .i32 0]) ?_ 4 _ rfl; (with_reducible repeat (first | refine blk_drewN ?_ _ | refine blk_drew ?_ | refine blk_alloc ?_ _)); refine blk_put (cs := #[.int .u8 0, .int .u8 0, .int .u8 0, .int .u8 0, .int .i32 0]) ?_ 3 _ rfl; (with_reducible repeat (first | refine blk_drewN ?_ _ | refine blk_drew ?_ | refine blk_alloc ?_ _)); refine blk_put (cs := #[.int .u8 0, .int .u8 0, .int .u8 0, .int .u8 0, .int .i32 0]) ?_ 2 _ rfl; (with_reducible repeat (first | refine blk_drewN ?_ _ | refine blk_drew ?_ | refine blk_alloc ?_ _)); refine blk_put (cs := #[.int .u8 0, .int .u8 0, .int .u8 0, .int .u8 0, .int .i32 0]) ?_ 1 _ rfl; (with_reducible repeat (first | refine blk_drewN ?_ _ | refine blk_drew ?_ | refine blk_alloc ?_ _)); refine blk_put (cs := #[.int .u8 0, .int .u8 0, .int .u8 0, .int .u8 0, .int .i32 0]) ?_ 0 _ rfl; (with_reducible repeat (first | refine blk_drewN ?_ _ | refine blk_drew ?_ | refine blk_alloc ?_ _)); exact BK142.out) Tryd.underlying26 rfl (by kernel_rfl)) rfl ?_
                        exact ⟨by first | rfl | (simp [errW_none, errW_some] <;> rfl) | (simp only [← hji27]; first | rfl | (simp [errW_none, errW_some] <;> rfl)) | (simp [*, errW_none, errW_some] <;> rfl), by repeat (first | (with_reducible first | exact HB.out | apply below_alloc | apply pw_below_drewN | apply below_drew1 | refine below_set ?_ GE142.out | refine below_set ?_ GE146.out) | exact HB.out)⟩
                  · rw [if_neg c35] at H
                    have c35b0 : decide (x8_2 < ((rdOf ByteArray.empty t152 (ji27)).size : Int)) = false := decide_eq_false c35
                    clear c35
                    replace H := Option.bind_eq_some_iff.mp H
                    obtain ⟨⟨t164, t165⟩, A630, H⟩ := H
                    replace H : (if t164.toList = a0.toList then (some (x147000_2, x147001_2, x147002_2, x147003_2, x147004_2, 0)) else (some (0, 0, 0, 0, 0, 41))) = some (r1, r2, r3, r4, r5, r6) := H
                    have A63 := Aside0.mk A630
                    clear A630
                    by_cases c64 : t164.toList = a0.toList
                    · rw [if_pos c64] at H
                      have c64b0 : (t164.toList == a0.toList) = true := beq_iff_eq.mpr c64
                      have c64b1 : (t164.toList != a0.toList) = false := bne_eq_false_iff_eq.mpr c64
                      clear c64
                      simp only [Option.some.injEq, Prod.mk.injEq] at H
                      obtain ⟨rfl, rfl, rfl, rfl, rfl, rfl⟩ := H
                      have hnb65 := NB146_142.out
                      have hnc65 := NB142_146.out
                      have hcz66_0 : wr.cell? ⟨gb146, 0, none⟩ = some (.int .u8 x147000_2) := (blk_cell BK146.out 0).trans rfl
                      have hcz66_1 : wr.cell? ⟨gb146, 1, none⟩ = some (.int .u8 x147001_2) := (blk_cell BK146.out 1).trans rfl
                      have hcz66_2 : wr.cell? ⟨gb146, 2, none⟩ = some (.int .u8 x147002_2) := (blk_cell BK146.out 2).trans rfl
                      have hcz66_3 : wr.cell? ⟨gb146, 3, none⟩ = some (.int .u8 x147003_2) := (blk_cell BK146.out 3).trans rfl
                      have hcz66_4 : wr.cell? ⟨gb146, 4, none⟩ = some (.int .i32 x147004_2) := (blk_cell BK146.out 4).trans rfl
                      have hfz66_0 := blk_frozen BK146.out 0
                      have hfz66_1 := blk_frozen BK146.out 1
                      have hfz66_2 := blk_frozen BK146.out 2
                      have hfz66_3 := blk_frozen BK146.out 3
                      have hfz66_4 := blk_frozen BK146.out 4
                      go_wp2_with (first | ((with_reducible refine gate_callee (f := 22) rfl ?_); refine goesL_ (some 63) rfl rfl Tryd.func22 (by kernel_rfl) rfl #[.agg #[.int .u8 x147000_2, .int .u8 x147001_2, .int .u8 x147002_2, .int .u8 x147003_2, .int .i32 x147004_2]] rfl (by (try simp only [List.map_toArray, List.map_cons, List.map_nil]); first | done | rfl | (simp only [List.length_drop, List.length_take]; rfl)) ?_; (with_reducible refine (bulkheadref03_Show.calls x147000_2 x147001_2 x147002_2 x147003_2 x147004_2 t164 t165 _ A63.out).mono ?_); rintro e w67 ⟨rfl, hb⟩; refine ⟨_, rfl, ?_⟩; have n0_ := Aside0.mk (Kd.R_below (by (with_reducible repeat (first | apply Kd.R_alloc | apply Kd.R_drewN | apply Kd.R_drew)); exact HO_4.out) hb); have n1_ := Aside0.mk (blk_below (g := gb142) (o := .cells #[.int .u8 0, .int .u8 0, .int .u8 0, .int .u8 0, .int .i32 0] 26 (0, 0)) (by (with_reducible repeat (first | refine blk_drewN ?_ _ | refine blk_drew ?_ | refine blk_alloc ?_ _)); exact BK142.out) hb); have n2_ := Aside0.mk (blk_below (g := gb146) (o := .cells #[.int .u8 x147000_2, .int .u8 x147001_2, .int .u8 x147002_2, .int .u8 x147003_2, .int .i32 x147004_2] 26 (0, 0)) (by (with_reducible repeat (first | refine blk_drewN ?_ _ | refine blk_drew ?_ | refine blk_alloc ?_ _)); exact BK146.out) hb); have n3_ := Aside0.mk (below_step (by repeat (first | (with_reducible first | exact HB.out | apply below_alloc | apply pw_below_drewN | apply below_drew1 | refine below_set ?_ GE142.out | refine below_set ?_ GE146.out) | exact HB.out)) hb); clear HO_4; clear BK142; clear BK146; clear HB; have HO_4 := n0_; have BK142 := n1_; have BK146 := n2_; have HB := n3_; clear n0_ n1_ n2_ n3_; (try clear hb); (try clear hb2); (try clear hk); (try clear hi); have hcz68_0 : w67.cell? ⟨gb146, 0, none⟩ = some (.int .u8 x147000_2) := (blk_cell BK146.out 0).trans rfl; have hcz68_1 : w67.cell? ⟨gb146, 1, none⟩ = some (.int .u8 x147001_2) := (blk_cell BK146.out 1).trans rfl; have hcz68_2 : w67.cell? ⟨gb146, 2, none⟩ = some (.int .u8 x147002_2) := (blk_cell BK146.out 2).trans rfl; have hcz68_3 : w67.cell? ⟨gb146, 3, none⟩ = some (.int .u8 x147003_2) := (blk_cell BK146.out 3).trans rfl; have hcz68_4 : w67.cell? ⟨gb146, 4, none⟩ = some (.int .i32 x147004_2) := (blk_cell BK146.out 4).trans rfl; have hfz68_0 := blk_frozen BK146.out 0; have hfz68_1 := blk_frozen BK146.out 1; have hfz68_2 := blk_frozen BK146.out 2; have hfz68_3 := blk_frozen BK146.out 3; have hfz68_4 := blk_frozen BK146.out 4; have hcz69_0 : w67.cell? ⟨gb142, 0, none⟩ = some (.int .u8 0) := (blk_cell BK142.out 0).trans rfl; have hcz69_1 : w67.cell? ⟨gb142, 1, none⟩ = some (.int .u8 0) := (blk_cell BK142.out 1).trans rfl; have hcz69_2 : w67.cell? ⟨gb142, 2, none⟩ = some (.int .u8 0) := (blk_cell BK142.out 2).trans rfl; have hcz69_3 : w67.cell? ⟨gb142, 3, none⟩ = some (.int .u8 0) := (blk_cell BK142.out 3).trans rfl; have hcz69_4 : w67.cell? ⟨gb142, 4, none⟩ = some (.int .i32 0) := (blk_cell BK142.out 4).trans rfl; have hfz69_0 := blk_frozen BK142.out 0; have hfz69_1 := blk_frozen BK142.out 1; have hfz69_2 := blk_frozen BK142.out 2; have hfz69_3 := blk_frozen BK142.out 3; have hfz69_4 := blk_frozen BK142.out 4))
                      refine bodyPost_ret (results_ct rfl _ _ gb142 26 #[.int .u8 x147000_2, .int .u8 x147001_2, .int .u8 x147002_2, .int .u8 x147003_2, .int .i32 x147004_2] (0, 0) _ rfl (by (with_reducible repeat (first | refine blk_drewN ?_ _ | refine blk_drew ?_ | refine blk_alloc ?_ _)); refine blk_put (cs := #[.int .u8 x147000_2, .int .u8 x147001_2, .int .u8 x147002_2, .int .u8 x147003_2, .int .i32 0]) ?_ 4 _ rfl; (with_reducible repeat (first | refine blk_drewN ?_ _ | refine blk_drew ?_ | refine blk_alloc ?_ _)); refine blk_put (cs := #[.int .u8 x147000_2, .int .u8 x147001_2, .int .u8 x147002_2, .int .u8 0, .int .i32 0]) ?_ 3 _ rfl; (with_reducible repeat (first | refine blk_drewN ?_ _ | refine blk_drew ?_ | refine blk_alloc ?_ _)); refine blk_put (cs := #[.int .u8 x147000_2, .int .u8 x147001_2, .int .u8 0, .int .u8 0, .int .i32 0]) ?_ 2 _ rfl; (with_reducible repeat (first | refine blk_drewN ?_ _ | refine blk_drew ?_ | refine blk_alloc ?_ _)); refine blk_put (cs := #[.int .u8 x147000_2, .int .u8 0, .int .u8 0, .int .u8 0, .int .i32 0]) ?_ 1 _ rfl; (with_reducible repeat (first | refine blk_drewN ?_ _ | refine blk_drew ?_ | refine blk_alloc ?_ _)); refine blk_put (cs := #[.int .u8 0, .int .u8 0, .int .u8 0, .int .u8 0, .int .i32 0]) ?_ 0 _ rfl; (with_reducible repeat (first | refine blk_drewN ?_ _ | refine blk_drew ?_ | refine blk_alloc ?_ _)); exact BK142.out) Tryd.underlying26 rfl (by kernel_rfl)) rfl ?_
                      exact ⟨by first | rfl | (simp [errW_none, errW_some] <;> rfl) | (simp only [← hji27]; first | rfl | (simp [errW_none, errW_some] <;> rfl)) | (simp [*, errW_none, errW_some] <;> rfl), by repeat (first | (with_reducible first | exact HB.out | apply below_alloc | apply pw_below_drewN | apply below_drew1 | refine below_set ?_ GE142.out | refine below_set ?_ GE146.out) | exact HB.out)⟩
                    · rw [if_neg c64] at H
                      have c64b0 : (t164.toList == a0.toList) = false := beq_eq_false_iff_ne.mpr c64
                      have c64b1 : (t164.toList != a0.toList) = true := bne_iff_ne.mpr c64
                      simp only [Option.some.injEq, Prod.mk.injEq] at H
                      obtain ⟨rfl, rfl, rfl, rfl, rfl, rfl⟩ := H
                      have hnb70 := NB146_142.out
                      have hnc70 := NB142_146.out
                      have hcz71_0 : wr.cell? ⟨gb146, 0, none⟩ = some (.int .u8 x147000_2) := (blk_cell BK146.out 0).trans rfl
                      have hcz71_1 : wr.cell? ⟨gb146, 1, none⟩ = some (.int .u8 x147001_2) := (blk_cell BK146.out 1).trans rfl
                      have hcz71_2 : wr.cell? ⟨gb146, 2, none⟩ = some (.int .u8 x147002_2) := (blk_cell BK146.out 2).trans rfl
                      have hcz71_3 : wr.cell? ⟨gb146, 3, none⟩ = some (.int .u8 x147003_2) := (blk_cell BK146.out 3).trans rfl
                      have hcz71_4 : wr.cell? ⟨gb146, 4, none⟩ = some (.int .i32 x147004_2) := (blk_cell BK146.out 4).trans rfl
                      have hfz71_0 := blk_frozen BK146.out 0
                      have hfz71_1 := blk_frozen BK146.out 1
                      have hfz71_2 := blk_frozen BK146.out 2
                      have hfz71_3 := blk_frozen BK146.out 3
                      have hfz71_4 := blk_frozen BK146.out 4
                      go_wp2_with (first | ((with_reducible refine gate_callee (f := 22) rfl ?_); refine goesL_ (some 63) rfl rfl Tryd.func22 (by kernel_rfl) rfl #[.agg #[.int .u8 x147000_2, .int .u8 x147001_2, .int .u8 x147002_2, .int .u8 x147003_2, .int .i32 x147004_2]] rfl (by (try simp only [List.map_toArray, List.map_cons, List.map_nil]); first | done | rfl | (simp only [List.length_drop, List.length_take]; rfl)) ?_; (with_reducible refine (bulkheadref03_Show.calls x147000_2 x147001_2 x147002_2 x147003_2 x147004_2 t164 t165 _ A63.out).mono ?_); rintro e w72 ⟨rfl, hb⟩; refine ⟨_, rfl, ?_⟩; have n0_ := Aside0.mk (Kd.R_below (by (with_reducible repeat (first | apply Kd.R_alloc | apply Kd.R_drewN | apply Kd.R_drew)); exact HO_4.out) hb); have n1_ := Aside0.mk (blk_below (g := gb142) (o := .cells #[.int .u8 0, .int .u8 0, .int .u8 0, .int .u8 0, .int .i32 0] 26 (0, 0)) (by (with_reducible repeat (first | refine blk_drewN ?_ _ | refine blk_drew ?_ | refine blk_alloc ?_ _)); exact BK142.out) hb); have n2_ := Aside0.mk (blk_below (g := gb146) (o := .cells #[.int .u8 x147000_2, .int .u8 x147001_2, .int .u8 x147002_2, .int .u8 x147003_2, .int .i32 x147004_2] 26 (0, 0)) (by (with_reducible repeat (first | refine blk_drewN ?_ _ | refine blk_drew ?_ | refine blk_alloc ?_ _)); exact BK146.out) hb); have n3_ := Aside0.mk (below_step (by repeat (first | (with_reducible first | exact HB.out | apply below_alloc | apply pw_below_drewN | apply below_drew1 | refine below_set ?_ GE142.out | refine below_set ?_ GE146.out) | exact HB.out)) hb); clear HO_4; clear BK142; clear BK146; clear HB; have HO_4 := n0_; have BK142 := n1_; have BK146 := n2_; have HB := n3_; clear n0_ n1_ n2_ n3_; (try clear hb); (try clear hb2); (try clear hk); (try clear hi); have hcz73_0 : w72.cell? ⟨gb142, 0, none⟩ = some (.int .u8 0) := (blk_cell BK142.out 0).trans rfl; have hcz73_1 : w72.cell? ⟨gb142, 1, none⟩ = some (.int .u8 0) := (blk_cell BK142.out 1).trans rfl; have hcz73_2 : w72.cell? ⟨gb142, 2, none⟩ = some (.int .u8 0) := (blk_cell BK142.out 2).trans rfl; have hcz73_3 : w72.cell? ⟨gb142, 3, none⟩ = some (.int .u8 0) := (blk_cell BK142.out 3).trans rfl; have hcz73_4 : w72.cell? ⟨gb142, 4, none⟩ = some (.int .i32 0) := (blk_cell BK142.out 4).trans rfl; have hfz73_0 := blk_frozen BK142.out 0; have hfz73_1 := blk_frozen BK142.out 1; have hfz73_2 := blk_frozen BK142.out 2; have hfz73_3 := blk_frozen BK142.out 3; have hfz73_4 := blk_frozen BK142.out 4))
                      refine bodyPost_ret (results_ct rfl _ _ gb142 26 #[.int .u8 0, .int .u8 0, .int .u8 0, .int .u8 0, .int .i32 0] (0, 0) _ rfl (by (with_reducible repeat (first | refine blk_drewN ?_ _ | refine blk_drew ?_ | refine blk_alloc ?_ _)); refine blk_put (cs := #[.int .u8 0, .int .u8 0, .int .u8 0, .int .u8 0, .int .i32 0]) ?_ 4 _ rfl; (with_reducible repeat (first | refine blk_drewN ?_ _ | refine blk_drew ?_ | refine blk_alloc ?_ _)); refine blk_put (cs := #[.int .u8 0, .int .u8 0, .int .u8 0, .int .u8 0, .int .i32 0]) ?_ 3 _ rfl; (with_reducible repeat (first | refine blk_drewN ?_ _ | refine blk_drew ?_ | refine blk_alloc ?_ _)); refine blk_put (cs := #[.int .u8 0, .int .u8 0, .int .u8 0, .int .u8 0, .int .i32 0]) ?_ 2 _ rfl; (with_reducible repeat (first | refine blk_drewN ?_ _ | refine blk_drew ?_ | refine blk_alloc ?_ _)); refine blk_put (cs := #[.int .u8 0, .int .u8 0, .int .u8 0, .int .u8 0, .int .i32 0]) ?_ 1 _ rfl; (with_reducible repeat (first | refine blk_drewN ?_ _ | refine blk_drew ?_ | refine blk_alloc ?_ _)); refine blk_put (cs := #[.int .u8 0, .int .u8 0, .int .u8 0, .int .u8 0, .int .i32 0]) ?_ 0 _ rfl; (with_reducible repeat (first | refine blk_drewN ?_ _ | refine blk_drew ?_ | refine blk_alloc ?_ _)); exact BK142.out) Tryd.underlying26 rfl (by kernel_rfl)) rfl ?_
                      exact ⟨by first | rfl | (simp [errW_none, errW_some] <;> rfl) | (simp only [← hji27]; first | rfl | (simp [errW_none, errW_some] <;> rfl)) | (simp [*, errW_none, errW_some] <;> rfl), by repeat (first | (with_reducible first | exact HB.out | apply below_alloc | apply pw_below_drewN | apply below_drew1 | refine below_set ?_ GE142.out | refine below_set ?_ GE146.out) | exact HB.out)⟩
            · rw [if_neg c29] at H
              exact absurd H (by simp)
          · rw [if_neg c28] at H
            exact absurd H (by simp)

end Go.Proofs.YtcbhkeinmdobhaaDoor.PReads
