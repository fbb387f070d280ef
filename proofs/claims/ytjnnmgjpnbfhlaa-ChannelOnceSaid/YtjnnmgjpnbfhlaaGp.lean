import Derived.Test.YtjnnmgjpnbfhlaaGc
import Derived.Test.YtjnnmgjpnbfhlaaSf
import Derived.Handy
namespace Go.Proofs.Ytjnnmgjpnbfhlaa.POnce
open Go.Sort (grow putRow Holds putRow_self)
open Go.RowKit Go.Shelf Go.Proofs.YtjnnmgjpnbfhlaaW.PrintWords Go.Proofs.YtjnnmgjpnbfhlaaW.PrintLast Go.Proofs.YtjnnmgjpnbfhlaaW.PrintMore
set_option linter.unusedVariables false
set_option linter.unusedSimpArgs false

theorem R_block {e : TypeId} {w : World} {base : Nat} {ok : Nat → Prop} {v : Value} {xs : List Int} (h : (Kd.int .i64).R e w base ok v xs) (hn : 0 < xs.length) :
    ∃ g cap, v = .slice (some ⟨g, 0, none⟩) xs.length cap ∧ xs.length ≤ cap ∧ base ≤ g ∧ g < w.heap.size := by
  obtain ⟨inner, ho⟩ := Kd.R_own h
  obtain ⟨A, c, hv, hc, _⟩ := Kd.R_reads h
  rcases ho.2 with ⟨hv', he⟩ | ⟨g, cap, cur, hv', hb, hh, _⟩
  · rw [hv] at hv'
    injection hv' with _ h2 _
    omega
  · rw [hv] at hv'
    injection hv' with h1 h2 h3
    subst h1
    exact ⟨g, c, hv, hc, hb, blk_lt hh⟩
theorem ahead_below (w : World) (n : Nat) : Below w.heap.size w (Go.Sort.ahead w n) := ⟨rfl, rfl, rfl, Nat.le_refl _, fun _ _ => rfl⟩
theorem grow_below (w : World) (os : Array Obj) : Below w.heap.size w (grow w os) :=
  ⟨rfl, rfl, rfl, by simp [grow], fun j hj => by simp [grow, Array.getElem?_append, hj]⟩
theorem sort_one (g cap : Nat) (x : Int) (w : World) (hc : w.cell? ⟨g, 0, none⟩ = some (.int .i64 x)) (hf : w.frozen? ⟨g, 0, none⟩ = false) :
    Calls Try.prog 37 #[.slice (some ⟨g, 0, none⟩) 1 cap] w fun e w' => e = .returned (.tuple #[]) ∧ Below w.heap.size w w' := by
  have hlt := World.block_lt_of_cell? w _ hc
  have hH : Holds (Value.int .i64) w g 0 [x].toArray := by
    intro j hj
    obtain rfl : j = 0 := by simpa using hj
    exact ⟨hc, hf⟩
  refine (Try.slices_Sort_int g 0 cap [x] w hH hlt (by simp)).mono fun e w' h => ⟨h.1, ?_⟩
  obtain ⟨n, os, rfl⟩ := h.2
  have e1 : ([x].mergeSort fun a b => decide (a ≤ b)) = [x] := by simp
  rw [e1, putRow_self _ _ _ _ _ (show Holds (Value.int .i64) (Go.Sort.ahead w n) g 0 [x].toArray from hH)]
  exact (ahead_below w n).trans ((grow_below (Go.Sort.ahead w n) os).mono (Nat.le_refl _))
theorem compact_one (g cap : Nat) (x : Int) (w : World) (hcap : 1 ≤ cap) (hc : w.cell? ⟨g, 0, none⟩ = some (.int .i64 x)) (hf : w.frozen? ⟨g, 0, none⟩ = false) :
    Calls Try.prog 38 #[.slice (some ⟨g, 0, none⟩) 1 cap] w fun e w' => e = .returned (.slice (some ⟨g, 0, none⟩) 1 cap) ∧ Below w.heap.size w w' := by
  have hH : Holds (Value.int .i64) w g 0 [x].toArray := by
    intro j hj
    obtain rfl : j = 0 := by simpa using hj
    exact ⟨hc, hf⟩
  refine (Try.slices_Compact_int g 0 cap [x] w hH (by simp) (by simpa using hcap)).mono fun e w' h => ?_
  have e1 : Lib.compact [x] = [x] := rfl
  obtain ⟨h1, q, rfl⟩ := h
  rw [e1] at h1 ⊢
  refine ⟨h1, ?_⟩
  have e2 : ([x] ++ List.replicate ([x].length - [x].length) 0 : List Int) = [x] := rfl
  rw [e2, putRow_self _ _ _ _ _ (show Holds (Value.int .i64) (Go.Sort.ahead w q) g 0 [x].toArray from hH)]
  exact ahead_below w q

set_option maxRecDepth 100000 in
set_option maxHeartbeats 4000000 in
theorem channel_Parts.calls (A0_0 : Option Addr) (c0_0 : Nat) (l0_0 : List (S71)) (A0_1 : Option Addr) (c0_1 : Nat) (l0_1 : List (S47)) (A0_2 : Option Addr) (c0_2 : Nat) (l0_2 : List (S24)) (a1 : Int) (r1 : Int) (r2 : List Int) (r3 : Int) (w : World) (hr0_0 : Kd.C k71 w A0_0 l0_0.length l0_0) (hc0_0 : l0_0.length ≤ c0_0) (hr0_1 : Kd.C k47 w A0_1 l0_1.length l0_1) (hc0_1 : l0_1.length ≤ c0_1) (hr0_2 : Kd.C k24 w A0_2 l0_2.length l0_2) (hc0_2 : l0_2.length ≤ c0_2) (h : channel_Parts.f l0_0 l0_1 l0_2 a1 = some (r1, r2, r3)) :
    Calls Try.prog 22 #[.agg #[.slice A0_0 l0_0.length c0_0, .slice A0_1 l0_1.length c0_1, .slice A0_2 l0_2.length c0_2], .int .i64 a1] w fun e w' => ∃ v1_ : Value, e = .returned (.tuple #[.int .i64 r1, v1_, .int .i64 r3]) ∧ Kd.R (Kd.int .i64) 3 w' w.heap.size (fun _ => True) v1_ r2 ∧ Below w.heap.size w w' := by
  unfold channel_Parts.f at h
  split at h
  case isFalse => cases h
  rename_i hh
  obtain ⟨h1, h2, h3, h4, h5, h6, rfl⟩ := hh
  injection h with h
  simp only [Prod.mk.injEq] at h
  obtain ⟨rfl, rfl, rfl⟩ := h
  obtain ⟨ad, A2, c2, rfl, g0, g1, g2, g3, g4, hl2, hc2⟩ := at_T24 hr0_2 0 (by omega) (by omega)
  rw [h5] at g1
  rw [h6] at g2 hl2 hc2
  simp only [Int.toNat_zero, Nat.zero_mul, Addr.add_zero'] at g0 g1 g2 g3 g4
  obtain ⟨ad2, rfl, hk2⟩ := Kd.at_int hc2 0 (by omega) (by simp)
  have e0 : rd [2] 0 = 2 := rfl
  rw [e0] at hk2
  simp only [Int.toNat_zero, Addr.add_zero', List.length_singleton] at hk2 g2 hl2
  have hw1 : wrap64 1 = 1 := by unfold wrap64; omega
  have hw0 : wrap64 0 = 0 := by unfold wrap64; omega
  have f2 : channel_part.f l0_0 l0_1 l0_2 2 = some 3 := by
    unfold channel_part.f
    rw [if_neg (by omega), if_neg (by omega), show (2 : Int) - 1 = 1 from rfl, hw1, if_pos (by omega), if_pos (by omega), h3]
  have f1 : channel_part.f l0_0 l0_1 l0_2 1 = some 2 := by
    unfold channel_part.f
    rw [if_neg (by omega), if_neg (by omega), show (1 : Int) - 1 = 0 from rfl, hw0, if_pos (by omega), if_pos (by omega), h2]
  have hp2 : ∀ W', Below w.heap.size w W' → Calls Try.prog 36 #[.agg #[.slice A0_0 l0_0.length c0_0, .slice A0_1 l0_1.length c0_1, .slice (some ad) l0_2.length c0_2], .int .i64 2] W' fun e w'' => e = .returned (.int .i64 3) ∧ Below W'.heap.size W' w'' := fun W' hB =>
    channel_part.calls A0_0 c0_0 l0_0 A0_1 c0_1 l0_1 (some ad) c0_2 l0_2 2 3 W' (Kd.C_below hr0_0 hB) hc0_0 (Kd.C_below hr0_1 hB) hc0_1 (Kd.C_below hr0_2 hB) hc0_2 f2
  have hp1 : ∀ W', Below w.heap.size w W' → Calls Try.prog 36 #[.agg #[.slice A0_0 l0_0.length c0_0, .slice A0_1 l0_1.length c0_1, .slice (some ad) l0_2.length c0_2], .int .i64 1] W' fun e w'' => e = .returned (.int .i64 2) ∧ Below W'.heap.size W' w'' := fun W' hB =>
    channel_part.calls A0_0 c0_0 l0_0 A0_1 c0_1 l0_1 (some ad) c0_2 l0_2 1 2 W' (Kd.C_below hr0_0 hB) hc0_0 (Kd.C_below hr0_1 hB) hc0_1 (Kd.C_below hr0_2 hB) hc0_2 f1
  rw [h4] at hp1 hp2 ⊢
  have had : ad.block < w.heap.size := by have := World.block_lt_of_cell? w _ g0; exact this
  have had2 : ad2.block < w.heap.size := by have := World.block_lt_of_cell? w _ hk2; exact this
  have hl3 : c0_2 ≥ 1 := by omega
  have HP2 := Lib.hid hp2
  have HP1 := Lib.hid hp1
  clear hp1 hp2 f1 f2 h1 h2 h3 h5 h6 e0 hw1 hw0 hr0_0 hr0_1 hr0_2 hc2
  go_enter Try.func22, Try.ntmps22
  go_wp2_with fail
  refine wp_loop_rounds 2 ?_
  rw [rounds_succ]
  go_wp2_with (first | (go_at_call 36; (with_reducible refine (HP2.out _ ?hb).mono ?_); (case hb => go_grown); rintro e w3 ⟨rfl, hb3⟩; (have B0 := blk_below (blk_alloc (blk_new w (.cells #[.slice A0_0 l0_0.length c0_0, .slice A0_1 l0_1.length c0_1, .slice (some ad) 1 c0_2] 34 (0, 0))) (.cells #[.int .i64 (rd_T24 l0_2 0).f0, .int .i64 1, .slice (some ad2) 1 c2, .int .i64 (rd_T24 l0_2 0).f3, .int .i64 (rd_T24 l0_2 0).f4] 24 (0, 0))) hb3); (have B1 := blk_below (blk_new (w.alloc (.cells #[.slice A0_0 l0_0.length c0_0, .slice A0_1 l0_1.length c0_1, .slice (some ad) 1 c0_2] 34 (0, 0))) (.cells #[.int .i64 (rd_T24 l0_2 0).f0, .int .i64 1, .slice (some ad2) 1 c2, .int .i64 (rd_T24 l0_2 0).f3, .int .i64 (rd_T24 l0_2 0).f4] 24 (0, 0))) hb3); (rw [World.size_alloc] at B1); (have hB3 : Below w.heap.size w w3 := (((Below.refl _ _).alloc (Nat.le_refl _) _).alloc (by simp) _).trans (hb3.mono (by simp; omega))); (have hz3 := hb3.size); (simp at hz3); (have hz4 : w.heap.size < w3.heap.size := (by omega)); (have hz5 : w.heap.size + 1 < w3.heap.size := (by omega)); (have HB0 := Lib.hid B0); (have HB1 := Lib.hid B1); (have HBB := Lib.hid hB3); (clear B0 B1 hB3 hz3 hb3)) | (at_builtin; go_must (refine Kd.R_append (Kd.int .i64) (w0 := w) w.heap.size rfl (.tmp 33) (.tmp 37) 22 3 (.int .i64 0) 8 rfl Try.underlying22 info3 rfl (by decide) (by omega) (.slice none 0 0) [] 3 [.int .i64 3] (fun _ => True) (fun _ => False) rfl rfl ?aP (fun _ hk => hk.elim) ?aF ?aO ?aB ?aS ?aL ?_; (case aP => exact rfl); (case aF => exact fun _ _ => trivial); (case aO => exact Kd.R_nil _ _ _ _ _); (case aB => exact HBB.out); (case aS => exact HBB.out.size); (case aL => simp only [List.length_nil]; omega); intro v9 w9 ho9 hb9 hg9 hat9; (have B0 := blk_grown HB0.out hg9 (by simp [Value.ownBlock])); (have B1 := blk_grown HB1.out hg9 (by simp [Value.ownBlock])); (rw [List.nil_append] at ho9); (obtain ⟨g, cap, rfl, hcap, hgb, hgl⟩ := R_block ho9 (by simp)); (have own9 := Kd.own_of_R (enc := Value.int .i64) (h1 := fun _ => rfl) ho9); (obtain ⟨hc9, hf9⟩ := own_at_of (enc := Value.int .i64) (d := (0 : Int)) own9 0 (by omega) (by simp)); (have HR9 := Lib.hid ho9); (have HB9 := Lib.hid hb9); (have HB0' := Lib.hid B0); (have HB1' := Lib.hid B1); (clear B0 B1 ho9 hb9 hg9 hat9 own9))))
  rw [rounds_succ]
  simp only [Int.toNat_zero] at hc9 hf9
  have hcap1 : 1 ≤ cap := hcap
  have e3 : rdOf 0 [(3 : Int)] 0 = 3 := rfl
  rw [e3] at hc9
  go_wp2_with (first | (go_at_call 37; go_must (refine (sort_one g cap 3 w9 hc9 hf9).mono ?_; rintro e w10 ⟨rfl, hb10⟩; (have hc10 := (hb10.cell (p := ⟨g, 0, none⟩) hgl).trans hc9); (have hf10 := (hb10.frozen (p := ⟨g, 0, none⟩) hgl).trans hf9); (have hgl10 := Nat.lt_of_lt_of_le hgl hb10.size); (have B0 := blk_below HB0'.out hb10); (have B1 := blk_below HB1'.out hb10); (have x0 := (blk_cell B0 0).trans rfl); (have x1 := (blk_cell B0 1).trans rfl); (have x2 := (blk_cell B0 2).trans rfl); (have y1 := (blk_cell B1 1).trans rfl); (have hR10 := Kd.R_below HR9.out hb10); (have hB10 : Below w.heap.size w w10 := HB9.out.trans (hb10.mono HB9.out.size)); (have HR10 := Lib.hid hR10); (have HB10 := Lib.hid hB10); (clear hb10 B0 B1 hR10 hB10 hc9 hf9))) | (go_at_call 36; go_must ((with_reducible refine (HP1.out _ HB10.out).mono ?_); rintro e w11 ⟨rfl, hb11⟩; (have hc11 := (hb11.cell (p := ⟨g, 0, none⟩) hgl10).trans hc10); (have hf11 := (hb11.frozen (p := ⟨g, 0, none⟩) hgl10).trans hf10); (have hR11 := Kd.R_below HR10.out hb11); (have hB11 : Below w.heap.size w w11 := HB10.out.trans (hb11.mono HB10.out.size)); (have HR11 := Lib.hid hR11); (have HB11 := Lib.hid hB11); (clear hb11 hR11 hB11))) | (go_at_call 38; go_must (refine (compact_one g cap 3 w11 hcap1 hc11 hf11).mono ?_; rintro e w12 ⟨rfl, hb12⟩; (have hR12 := Kd.R_below HR11.out hb12); (have hB12 : Below w.heap.size w w12 := HB11.out.trans (hb12.mono HB11.out.size)); (have HR12 := Lib.hid hR12); (have HB12 := Lib.hid hB12); (clear hb12 hR12 hB12))))
  go_ret3
  exact ⟨_, rfl, HR12.out, HB12.out⟩
end Go.Proofs.Ytjnnmgjpnbfhlaa.POnce
