import Derived.Test.YtledeaknnihlmaaDoorProg
import Derived.Test.YtledeaknnihlmaaDoorLiftC
namespace Go.Proofs.YtledeaknnihlmaaDoor.L
open Go Go.Proofs Go.RowKit Go.Lift
set_option linter.unusedVariables false
set_option linter.unusedSimpArgs false

set_option maxHeartbeats 1000000 in
set_option maxRecDepth 100000 in
/-- copyCheck: behind it the builder holds its own address; nothing else is changed. -/
theorem bld_check (b : Nat) (p v : Value) (w : World) (hbk : w.heap[b]? = some (.cells #[p, v] 75 (0, 0))) (hp : p = .pointer none ∨ p = .pointer (some ⟨b, 0, none⟩)) :
    Calls Tryd.prog 55 #[.pointer (some ⟨b, 0, none⟩)] w fun e w' => e = .returned (.tuple #[]) ∧ w.grownBy w' (some b) ∧ w'.heap[b]? = some (.cells #[.pointer (some ⟨b, 0, none⟩), v] 75 (0, 0)) := by
  have hsh : w.shape? b = some (75, 2) := by simp [World.shape?, hbk]
  have hfz : w.frozen? ⟨b, 0, none⟩ = false := Lib.frozen_of_heap hbk 0
  obtain ⟨j, hj, hjs⟩ := Option.map_eq_some_iff.1 (show (Tryd.prog.info? 75).map (·.size) = some 2 by kernel_rfl)
  rcases hp with rfl | rfl
  · have h0 : w.cell? ⟨b, 0, none⟩ = some (.pointer none) := by rw [Lib.cell_of_heap hbk]; rfl
    go_enter Tryd.func55, Tryd.ntmps55
    go_wp2
    rw [Lib.run_to_unsafe w ⟨b, 0, none⟩ Tryd.underlying72 Tryd.underlying113 hj (by rw [hjs]; decide) hsh (Nat.zero_lt_succ 1)]
    simp only [Result.andThen]
    rw [Oper.upon_value]
    go_wp2
    rw [run_callFunc_extern Tryd.func69 (by kernel_rfl) (by kernel_rfl) (by kernel_rfl) (e := Extern.AbiNoEscape.same) (by kernel_rfl)]
    rw [Lib.run_noEscape]
    simp only [Result.andThen]
    rw [Oper.upon_value]
    go_wp2
    rw [Lib.run_from_unsafe w ⟨b, 0, none⟩ Tryd.underlying113 Tryd.underlying72 hj hsh (by kernel_rfl)]
    simp only [Result.andThen]
    rw [Oper.upon_value]
    go_wp2
    go_end0
    refine ⟨rfl, ⟨rfl, rfl, rfl, by simp [World.setCell], fun k _ hk => Below.heap_setCell _ _ _ _ (fun e => hk (by simp [e]))⟩, ?_⟩
    simp [World.setCell, Array.getElem?_modify, hbk]
  · have h0 : w.cell? ⟨b, 0, none⟩ = some (.pointer (some ⟨b, 0, none⟩)) := by rw [Lib.cell_of_heap hbk]; rfl
    go_enter Tryd.func55, Tryd.ntmps55
    go_wp2
    rw [Lib.run_neq_ptr_same w _ Tryd.underlying72 hj]
    go_wp2
    go_end0
    exact ⟨rfl, ⟨rfl, rfl, rfl, Nat.le_refl _, fun _ _ _ => rfl⟩, hbk⟩

theorem buf_keep {w w' : World} {e : TypeId} {v : Value} {x : ByteArray} {Fb : List Nat} (h : BufAt w e v x Fb) (hF : ∀ b ∈ Fb, w'.heap[b]? = w.heap[b]?) : BufAt w' e v x Fb := h.imp id fun ⟨g, cap, C, h1, h2, h3, h4⟩ => ⟨g, cap, C, h1, h2, by rw [hF g (by simp [h2])]; exact h3, h4⟩

set_option maxHeartbeats 2000000 in
set_option maxRecDepth 100000 in
theorem bld_writeString (F : List Nat) (x s : ByteArray) (v0 : Value) (w : World) (h : BldAt w 75 5 F x [v0]) (hnd : F.Nodup) (hlen : x.size + s.size ≤ 140737488355328) :
    Calls Tryd.prog 33 #[v0, .string s] w fun e w' => e = .returned (.tuple #[.int .i64 s.size, .nilIface]) ∧ ∃ F', BldAt w' 75 5 F' (x ++ s) [v0] ∧ Fr w w' (· ∈ F) ∧ F'.Nodup ∧ ∀ b ∈ F', b ∈ F ∨ w.heap.size ≤ b := by
  obtain ⟨b, p, v, Fb, h1, rfl, hbk, hp, hbuf⟩ := h
  obtain rfl := (List.cons.inj h1).1
  obtain ⟨hnb, hndb⟩ := List.nodup_cons.1 hnd
  obtain ⟨i0, hi, hz0, hz1, hz2⟩ := info_parts (show (Tryd.prog.info? 5).map (fun i => (i.zero, i.size, i.bytes)) = some (some (.int .u8 0), 1, 1) by kernel_rfl)
  have e1 : ∀ args w, (callFunc 55 args).run Tryd.prog w = .ok (.enter 55 args) w := enters_of Tryd.func55 (by kernel_rfl) rfl
  go_enter Tryd.func33, Tryd.ntmps33
  go_wp2_with (go_at_fn 55; refine (bld_check b p v _ hbk hp).mono ?_)
  rintro e w1 rfl hg1 hb1
  have c0 : w1.cell? ⟨b, 0, none⟩ = some (.pointer (some ⟨b, 0, none⟩)) := by rw [Lib.cell_of_heap hb1]; rfl
  have c1 : w1.cell? ⟨b, 1, none⟩ = some v := by rw [Lib.cell_of_heap hb1]; rfl
  have hlt0 : b < w.heap.size := (Array.getElem?_eq_some_iff.1 hbk).1
  have hFb : ∀ u ∈ Fb, u < w.heap.size ∧ u ≠ b := fun u hu => ⟨Rz_lt w (fun _ => False) _ _ _ _ _ (buf_rz hbuf _) u hu, fun e => hnb (e ▸ hu)⟩
  have hbuf1 : BufAt w1 5 v x Fb := buf_keep hbuf fun u hu => hg1.block u (hFb u hu).1 (fun e => (hFb u hu).2 (Option.some.inj e))
  go_wp2_with (at_builtin; refine wpList_appB rfl _ _ 73 9 rfl 5 i0 Tryd.underlying73 hi hz1 hz0 hz2 v rfl hbuf1 hndb (intsOf s) (by rw [intsOf_len, intsOf_cells]; exact Src.ofString _ Tryd.underlying9 s) (by rw [intsOf_len]; exact hlen) ?_)
  intro A n c w2 F2 hfr hF2 hnd2 hz
  have hlt : b < w1.heap.size := (Array.getElem?_eq_some_iff.1 hb1).1
  have hb2 : w2.heap[b]? = some (.cells #[.pointer (some ⟨b, 0, none⟩), v] 75 (0, 0)) := by
    rw [hfr.frame b hlt hnb]
    exact hb1
  have d0 : w2.cell? ⟨b, 0, none⟩ = some (.pointer (some ⟨b, 0, none⟩)) := by rw [Lib.cell_of_heap hb2]; rfl
  have d1 : w2.cell? ⟨b, 1, none⟩ = some v := by rw [Lib.cell_of_heap hb2]; rfl
  have f1 : w2.frozen? ⟨b, 1, none⟩ = false := Lib.frozen_of_heap hb2 1
  go_wp2
  go_ret2
  have hbF2 : ∀ u ∈ F2, u ≠ b := fun u hu e => by
    rcases hF2 u hu with h | h
    · exact (hFb u h).2 e
    · omega
  refine ⟨rfl, b :: F2, ⟨b, .pointer (some ⟨b, 0, none⟩), .slice A n c, F2, rfl, rfl, ?_, .inr rfl, ?_⟩, ?_, List.nodup_cons.2 ⟨fun hb => hbF2 b hb rfl, hnd2⟩, fun u hu => ?_⟩
  · simp [World.setCell, Array.getElem?_modify, hb2]
  · rw [← intsOf_app] at hz
    exact buf_keep (rz_buf hz) fun u hu => Below.heap_setCell _ _ _ _ (fun e => hbF2 u hu e)
  · refine ⟨by simp [World.setCell, hfr.os, hg1.os], by simp [World.setCell, hfr.tape, hg1.tape], by simp [World.setCell, hfr.output, hg1.output], by have := hfr.size; have := hg1.size; simp [World.setCell]; omega, fun k hk hn => ?_⟩
    have hkb : k ≠ b := fun e => hn (by simp [e])
    rw [Below.heap_setCell _ _ _ _ (fun e => hkb e), hfr.frame k (Nat.lt_of_lt_of_le hk hg1.size) (fun h => hn (List.mem_cons_of_mem _ h)), hg1.block k hk (fun e => hkb (Option.some.inj e))]
  · rcases List.mem_cons.1 hu with rfl | hu
    · exact .inl (List.mem_cons_self ..)
    · exact (hF2 u hu).imp (List.mem_cons_of_mem _) fun h => Nat.le_trans hg1.size h

set_option maxHeartbeats 2000000 in
set_option maxRecDepth 100000 in
theorem bld_writeByte (F : List Nat) (x : ByteArray) (ch : Int) (v0 : Value) (w : World) (h : BldAt w 75 5 F x [v0]) (hnd : F.Nodup) (hlen : x.size + 1 ≤ 140737488355328) (h0 : 0 ≤ ch) (h1 : ch < 256) :
    Calls Tryd.prog 35 #[v0, .int .u8 ch] w fun e w' => e = .returned .nilIface ∧ ∃ F', BldAt w' 75 5 F' (x.push (UInt8.ofNat ch.toNat)) [v0] ∧ Fr w w' (· ∈ F) ∧ F'.Nodup ∧ ∀ b ∈ F', b ∈ F ∨ w.heap.size ≤ b := by
  obtain ⟨b, p, v, Fb, h1', rfl, hbk, hp, hbuf⟩ := h
  obtain rfl := (List.cons.inj h1').1
  obtain ⟨hnb, hndb⟩ := List.nodup_cons.1 hnd
  obtain ⟨i0, hi, hz0, hz1, hz2⟩ := info_parts (show (Tryd.prog.info? 5).map (fun i => (i.zero, i.size, i.bytes)) = some (some (.int .u8 0), 1, 1) by kernel_rfl)
  have e1 : ∀ args w, (callFunc 55 args).run Tryd.prog w = .ok (.enter 55 args) w := enters_of Tryd.func55 (by kernel_rfl) rfl
  go_enter Tryd.func35, Tryd.ntmps35
  go_wp2_with (go_at_fn 55; refine (bld_check b p v _ hbk hp).mono ?_)
  rintro e w1 rfl hg1 hb1
  have c0 : w1.cell? ⟨b, 0, none⟩ = some (.pointer (some ⟨b, 0, none⟩)) := by rw [Lib.cell_of_heap hb1]; rfl
  have c1 : w1.cell? ⟨b, 1, none⟩ = some v := by rw [Lib.cell_of_heap hb1]; rfl
  have hlt0 : b < w.heap.size := (Array.getElem?_eq_some_iff.1 hbk).1
  have hFb : ∀ u ∈ Fb, u < w.heap.size ∧ u ≠ b := fun u hu => ⟨Rz_lt w (fun _ => False) _ _ _ _ _ (buf_rz hbuf _) u hu, fun e => hnb (e ▸ hu)⟩
  have hbuf1 : BufAt (w1.alloc (.cells #[.int .u8 ch] 5)) 5 v x Fb := buf_keep hbuf fun u hu => by
    have hl := (hFb u hu).1
    have := hg1.size
    rw [Lib.alloc_old w1 _ u (by omega)]
    exact hg1.block u hl (fun e => (hFb u hu).2 (Option.some.inj e))
  go_wp2_with (at_builtin; refine wpList_appB rfl _ _ 73 73 rfl 5 i0 Tryd.underlying73 hi hz1 hz0 hz2 v rfl hbuf1 hndb [ch] (Src.ofSlice _ Tryd.underlying73 ⟨w1.heap.size, 0, none⟩ 1 1 _ rfl ?c1 ?c2) hlen ?_)
  case c1 =>
    intro j u hj
    match j, hj with
    | 0, hj => simp [enc1] at hj; subst hj; simp [Addr.add]
  case c2 => intro u hu; simp [enc1] at hu; subst hu; rfl
  intro A n c w2 F2 hfr hF2 hnd2 hz
  have hlt : b < w1.heap.size := (Array.getElem?_eq_some_iff.1 hb1).1
  have hb2 : w2.heap[b]? = some (.cells #[.pointer (some ⟨b, 0, none⟩), v] 75 (0, 0)) := by
    rw [hfr.frame b (by simp; omega) hnb, Lib.alloc_old w1 _ b hlt]
    exact hb1
  have d0 : w2.cell? ⟨b, 0, none⟩ = some (.pointer (some ⟨b, 0, none⟩)) := by rw [Lib.cell_of_heap hb2]; rfl
  have d1 : w2.cell? ⟨b, 1, none⟩ = some v := by rw [Lib.cell_of_heap hb2]; rfl
  have f1 : w2.frozen? ⟨b, 1, none⟩ = false := Lib.frozen_of_heap hb2 1
  go_wp2
  go_ret
  have hs2 := hfr.size
  simp only [World.alloc, Array.size_push] at hs2
  have hbF2 : ∀ u ∈ F2, u ≠ b := fun u hu e => by
    rcases hF2 u hu with h | h
    · exact (hFb u h).2 e
    · have h : w1.heap.size + 1 ≤ u := by simpa [World.alloc] using h
      omega
  have hpush : intsOf x ++ [ch] = intsOf (x.push (UInt8.ofNat ch.toNat)) := by
    have : (x.push (UInt8.ofNat ch.toNat)).data = x.data.push (UInt8.ofNat ch.toNat) := rfl
    simp only [intsOf, this, Array.toList_push, List.map_append, List.map_cons, List.map_nil]
    congr 2
    simp
    omega
  refine ⟨rfl, b :: F2, ⟨b, .pointer (some ⟨b, 0, none⟩), .slice A n c, F2, rfl, rfl, ?_, .inr rfl, ?_⟩, ?_, List.nodup_cons.2 ⟨fun hb => hbF2 b hb rfl, hnd2⟩, fun u hu => ?_⟩
  · simp [World.setCell, Array.getElem?_modify, hb2]
  · rw [hpush] at hz
    exact buf_keep (rz_buf hz) fun u hu => Below.heap_setCell _ _ _ _ (fun e => hbF2 u hu e)
  · refine ⟨by simp [World.setCell, hfr.os, hg1.os, World.alloc], by simp [World.setCell, hfr.tape, hg1.tape, World.alloc], by simp [World.setCell, hfr.output, hg1.output, World.alloc], by have := hg1.size; simp [World.setCell]; omega, fun k hk hn => ?_⟩
    have hkb : k ≠ b := fun e => hn (by simp [e])
    have := hg1.size
    rw [Below.heap_setCell _ _ _ _ (fun e => hkb e), hfr.frame k (by simp; omega) (fun h => hn (List.mem_cons_of_mem _ h)), Lib.alloc_old w1 _ k (by omega), hg1.block k hk (fun e => hkb (Option.some.inj e))]
  · rcases List.mem_cons.1 hu with rfl | hu
    · exact .inl (List.mem_cons_self ..)
    · exact (hF2 u hu).imp (List.mem_cons_of_mem _) fun h => by
        have h : w1.heap.size + 1 ≤ u := by simpa [World.alloc] using h
        have := hg1.size
        omega

theorem frz_fr (w : World) (b g n : Nat) : Fr w (w.drew.freeze ⟨g, 0, none⟩ n) (· ∈ [b, g]) := by
  have h := Lib.below_freeze (B := g) (Below.drew (Below.refl g w)) (p := ⟨g, 0, none⟩) (Nat.le_refl _) n
  refine ⟨h.os, h.tape, h.output, h.size, fun k hk hn => ?_⟩
  have : k ≠ g := fun e => hn (by simp [e])
  simp only [World.freeze]
  split
  · rfl
  · have hne : ¬ g = k := fun e => this e.symm
    simp only [World.drew, Array.getElem?_modify, if_neg hne]

set_option maxHeartbeats 2000000 in
set_option maxRecDepth 100000 in
theorem bld_string (F : List Nat) (x : ByteArray) (v0 : Value) (w : World) (h : BldAt w 75 5 F x [v0]) :
    Calls Tryd.prog 36 #[v0] w fun e w' => e = .returned (.string x) ∧ Fr w w' (· ∈ F) := by
  obtain ⟨b, p, v, Fb, h1, rfl, hbk, hp, hbuf⟩ := h
  obtain rfl := (List.cons.inj h1).1
  have mixed : Tryd.prog.follows .mixedOrders = true := by kernel_rfl
  have hUS0 : ∀ (W : World) (q : Option Addr), (Builtin.unsafeString_ #[103, 3] 9 #[.pointer q, .int .i64 0]).run Tryd.prog W = .ok (.string .empty) W := fun W q => Lib.run_unsafeString_none W _ _ _ q
  have emp : x.size = 0 → x = ByteArray.empty := fun hx => ByteArray.ext (Array.eq_empty_of_size_eq_zero hx)
  have hlt : b < w.heap.size := (Array.getElem?_eq_some_iff.1 hbk).1
  rcases hbuf with ⟨rfl, hx, rfl⟩ | ⟨g, cap, C, rfl, rfl, hg, hC, hcap, htake⟩
  · have c1 : w.drew.cell? ⟨b, 1, none⟩ = some (.slice none 0 0) := by
      have : w.drew.heap[b]? = some (.cells #[p, .slice none 0 0] 75 (0, 0)) := hbk
      rw [Lib.cell_of_heap this]; rfl
    have hSD : (Builtin.unsafeSliceData_ #[73] 103 #[.slice none 0 0]).run Tryd.prog w.drew = .ok (.pointer none) w.drew := rfl
    rw [emp hx]
    clear hp hbk
    go_enter Tryd.func36, Tryd.ntmps36
    go_wp2
    go_region_o
    all_goals (go_wp2; go_ret; exact ⟨rfl, rfl, rfl, rfl, Nat.le_refl _, fun _ _ _ => rfl⟩)
  by_cases hx : x.size = 0
  · rw [hx] at hbk hcap
    obtain rfl := emp hx
    by_cases hc0 : cap = 0
    · subst hc0
      have hSD : (Builtin.unsafeSliceData_ #[73] 103 #[.slice (some ⟨g, 0, none⟩) 0 0]).run Tryd.prog w.drew = .ok (.pointer (some ⟨w.drew.heap.size, 0, none⟩)) (w.drew.alloc (.view ⟨g, 0, none⟩ 5)) :=
        Lib.run_unsafeSliceData_zero w.drew _ _ 5 Tryd.underlying103 ⟨g, 0, none⟩ 0 (5, C.size) (by have hg' : w.drew.heap[g]? = some (.cells C 5 (0, 0)) := hg; simp [World.shape?, hg'])
      have c2 : (w.drew.alloc (.view ⟨g, 0, none⟩ 5)).cell? ⟨b, 1, none⟩ = some (.slice (some ⟨g, 0, none⟩) 0 0) := by
        have : (w.drew.alloc (.view ⟨g, 0, none⟩ 5)).heap[b]? = _ := (Lib.alloc_old w.drew _ b hlt).trans hbk
        rw [Lib.cell_of_heap this]; rfl
      have c3 : (w.alloc (.view ⟨g, 0, none⟩ 5)).drew.cell? ⟨b, 1, none⟩ = some (.slice (some ⟨g, 0, none⟩) 0 0) := c2
      have c1 : w.drew.cell? ⟨b, 1, none⟩ = some (.slice (some ⟨g, 0, none⟩) 0 0) := by
        have : w.drew.heap[b]? = some (.cells #[p, .slice (some ⟨g, 0, none⟩) 0 0] 75 (0, 0)) := hbk
        rw [Lib.cell_of_heap this]; rfl
      have c0 : w.cell? ⟨b, 1, none⟩ = some (.slice (some ⟨g, 0, none⟩) 0 0) := c1
      clear hp hbk hg htake hcap hC
      go_enter Tryd.func36, Tryd.ntmps36
      go_wp2
      go_region_o
      all_goals (go_wp2; go_ret; exact ⟨rfl, fr_of_below ((Below.drew (Below.refl w.heap.size w)).alloc (Nat.le_refl _) _)⟩)
    · have c1 : w.drew.cell? ⟨b, 1, none⟩ = some (.slice (some ⟨g, 0, none⟩) 0 cap) := by
        have : w.drew.heap[b]? = some (.cells #[p, .slice (some ⟨g, 0, none⟩) 0 cap] 75 (0, 0)) := hbk
        rw [Lib.cell_of_heap this]; rfl
      have hSD : (Builtin.unsafeSliceData_ #[73] 103 #[.slice (some ⟨g, 0, none⟩) 0 cap]).run Tryd.prog w.drew = .ok (.pointer (some ⟨g, 0, none⟩)) w.drew := Lib.run_unsafeSliceData_row _ _ _ _ _ _ hc0
      clear hc0 hp hbk hg htake hcap hC
      go_enter Tryd.func36, Tryd.ntmps36
      go_wp2
      go_region_o
      all_goals (go_wp2; go_ret; exact ⟨rfl, rfl, rfl, rfl, Nat.le_refl _, fun _ _ _ => rfl⟩)
  · have c1 : w.drew.cell? ⟨b, 1, none⟩ = some (.slice (some ⟨g, 0, none⟩) x.size cap) := by
      have : w.drew.heap[b]? = some (.cells #[p, .slice (some ⟨g, 0, none⟩) x.size cap] 75 (0, 0)) := hbk
      rw [Lib.cell_of_heap this]; rfl
    have hSD : (Builtin.unsafeSliceData_ #[73] 103 #[.slice (some ⟨g, 0, none⟩) x.size cap]).run Tryd.prog w.drew = .ok (.pointer (some ⟨g, 0, none⟩)) w.drew := Lib.run_unsafeSliceData_row _ _ _ _ _ _ (by have := hcap.1; omega)
    have hl : x.data.toList.length = x.size := by simp
    have hUS : (Builtin.unsafeString_ #[103, 3] 9 #[.pointer (some ⟨g, 0, none⟩), .int .i64 x.size]).run Tryd.prog w.drew = .ok (.string x) (w.drew.freeze ⟨g, 0, none⟩ x.size) := by
      have := Lib.run_unsafeString_row (P := Tryd.prog) w.drew 103 3 9 5 Tryd.underlying103 (by kernel_rfl) g C.size (by have hg' : w.drew.heap[g]? = some (.cells C 5 (0, 0)) := hg; simp [World.shape?, hg']) x.data.toList (fun e => hx (by rw [← hl, e]; rfl)) (by rw [hl, hC]; exact hcap.1) (by rw [hl]; have := hcap.1; have := hcap.2; omega) (fun j u hu => ?_)
      · rw [hl] at this
        exact this
      · have hj : j < x.size := by rw [← hl]; exact (List.getElem?_eq_some_iff.1 hu).1
        have e1 : (C.toList.take x.size)[j]? = (x.data.toList.map fun b => Value.int .u8 b.toNat)[j]? := by rw [htake]
        rw [List.getElem?_take, if_pos hj, List.getElem?_map, hu] at e1
        have hg' : w.drew.heap[g]? = some (.cells C 5 (0, 0)) := hg
        rw [show (⟨g, 0, none⟩ : Addr).add j = ⟨g, j, none⟩ by simp [Addr.add_lit], Lib.cell_of_heap hg']
        simpa using e1
    clear hp hbk htake hl emp hUS0
    go_enter Tryd.func36, Tryd.ntmps36
    go_wp2
    go_region_o
    all_goals (go_wp2; go_ret; exact ⟨rfl, frz_fr w b g _⟩)
end Go.Proofs.YtledeaknnihlmaaDoor.L
