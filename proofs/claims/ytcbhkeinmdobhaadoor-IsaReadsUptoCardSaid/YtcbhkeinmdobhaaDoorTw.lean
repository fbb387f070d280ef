import Derived.Test.YtcbhkeinmdobhaaDoorRg
import Derived.Test.YtcbhkeinmdobhaaDoorIl0
namespace Go.Proofs.YtcbhkeinmdobhaaDoor
open Go.ChangeShapes Go.WideShapes Go.ChangeAt Go.RowKit
set_option linter.unusedVariables false
set_option linter.unusedSimpArgs false

theorem opndB_size (a b c n : Int) (ch : UInt8) (ha : a < 16) (hb : b < 16) (hc : c < 16) (hn0 : -2147483648 ≤ n) (hn1 : n ≤ 2147483647) : (opndB a b c n ch).size ≤ 100 := by
  have e : (opndB a b c n ch).size = (opndL a b c n ch).length := by unfold opndL; rw [Array.length_toList]; rfl
  rw [e, opndL_eq]
  have hd : ∀ v : Int, v < 16 → (114 :: Lib.decDigits v.toNat : List UInt8).length ≤ 100 := fun v hv => by
    have := dec_len v.toNat (by omega)
    rw [List.length_cons]; omega
  split
  · exact hd a ha
  · split
    · exact hd b hb
    · split
      · exact hd c hc
      · have := Lib.itoa_length_le n (by omega) (by omega)
        omega
theorem shapes_short : ((List.range 28).all fun i => decide ((opShapes.getD i []).length ≤ 4)) = true := by kernel_rfl
theorem show_size (i a b c : Nat) (n : Int) (h1 : i ≤ 27) (hl : legalB i a b c n = true) (hn0 : -2147483648 ≤ n) (hn1 : n ≤ 2147483647) : (showS i a b c n).size ≤ 2000000 := by
  have hs : legalS (opShapes.getD i []) a b c n = true := by
    have h := hl
    unfold legalB at h
    rw [Bool.and_eq_true] at h
    simpa using h.2
  obtain ⟨g1, g2, g3⟩ := legal_regs hs
  have q := of_decide_eq_true (List.all_eq_true.1 shapes_short i (List.mem_range.2 (by omega)))
  have e : (showS i a b c n).size = (Lib.join ((nameB i :: (shapeB i).data.toList.map (opndB a b c n)).map (·.data.toList)) [32]).length := by
    unfold showS
    rw [if_pos hl, Int.toNat_natCast]
    show (List.toArray _).size = _
    rw [List.size_toArray]
  rw [e, List.map_cons, Lib.join_cons, List.length_append]
  have ht := tail_small ((shapeB i).data.toList.map (opndB a b c n)) (by
    intro x hx
    obtain ⟨y, _, rfl⟩ := List.mem_map.1 hx
    exact opndB_size a b c n y g1 g2 g3 hn0 hn1)
  have hn := nameLen i h1
  have hn' : (nameB i).data.toList.length ≤ 4 := by rw [Array.length_toList]; exact hn
  have hL : ((shapeB i).data.toList.map (opndB a b c n)).length ≤ 4 := by
    rw [List.length_map]
    have : (shapeB i).data.toList = opShapes.getD i [] := by simp [shapeB]
    rw [this]; exact q
  omega
set_option maxRecDepth 100000 in
set_option maxHeartbeats 4000000 in
theorem isaThere_no (op a b c n : Int) (w : World) (T : Tabs w) (h0 : 0 ≤ op) (h2 : op < 256) (ha : 0 ≤ a) (hb : 0 ≤ b) (hc : 0 ≤ c) (hn0 : -2147483648 ≤ n) (hn1 : n ≤ 2147483647) (hl : legalB op a b c n = false) :
    Calls Tryd.prog 9 #[ins op a b c n] w fun e w' => e = .returned (.bool true) ∧ Below w.heap.size w w' := by
  have hB0 : Below w.heap.size w (w.alloc (.cells #[.int .u8 op, .int .u8 a, .int .u8 b, .int .u8 c, .int .i32 n] 26)) := (Below.refl _ _).alloc (Nat.le_refl _) _
  have HL := Lib.hid hl
  have hleg : ∀ w', Tabs w' → Calls Tryd.prog 25 #[ins op a b c n] w' fun e w'' => e = .returned (.bool false) ∧ Below w'.heap.size w' w'' := fun w' T' => by
    rw [← hl]; exact legal op a b c n w' h0 h2 ha hb hc T'.tab T'.pos
  have HLG := Lib.hid hleg
  clear hl hleg
  go_enter Tryd.func9, Tryd.ntmps9
  go_wp2_with (first | (go_at_call 21; refine (show_no op a b c n _ (T.on hB0) h0 h2 ha hb hc HL.out).mono ?_; rintro e w1 ⟨rfl, hb1⟩; (have hB1 : Below w.heap.size w w1 := hB0.trans (hb1.mono hB0.size)); (obtain ⟨bc, bf⟩ := bcell hb1); (have hx0 := bc w.heap.size 0 (by simp)); (simp [World.cell?_alloc_new] at hx0); (have hx1 := bc w.heap.size 1 (by simp)); (simp [World.cell?_alloc_new] at hx1); (have hx2 := bc w.heap.size 2 (by simp)); (simp [World.cell?_alloc_new] at hx2); (have hx3 := bc w.heap.size 3 (by simp)); (simp [World.cell?_alloc_new] at hx3); (have hx4 := bc w.heap.size 4 (by simp)); (simp [World.cell?_alloc_new] at hx4); (have hz1 := hb1.size); (try simp at hz1); (have hz2 : w.heap.size < w1.heap.size := (by omega)); (clear bc bf hz1)) | (go_at_call 17; refine (known_t _ (T.on hB1)).mono ?_; rintro e w2 ⟨rfl, hb2⟩; (have hB2 : Below w.heap.size w w2 := hB1.trans (hb2.mono hB1.size)); (obtain ⟨bc, bf⟩ := bcell hb2); (have hx0 := (bc w.heap.size 0 hz2).trans hx0); (have hx1 := (bc w.heap.size 1 hz2).trans hx1); (have hx2 := (bc w.heap.size 2 hz2).trans hx2); (have hx3 := (bc w.heap.size 3 hz2).trans hx3); (have hx4 := (bc w.heap.size 4 hz2).trans hx4); (have hz1 := hb2.size); (try simp at hz1); (have hz2 : w.heap.size < w2.heap.size := (by omega)); (clear bc bf hz1)) | (go_at_call 25; refine (HLG.out _ (T.on hB2)).mono ?_; rintro e w3 ⟨rfl, hb3⟩; (have hB3 : Below w.heap.size w w3 := hB2.trans (hb3.mono hB2.size)); (obtain ⟨bc, bf⟩ := bcell hb3); (have hx0 := (bc w.heap.size 0 hz2).trans hx0); (have hx1 := (bc w.heap.size 1 hz2).trans hx1); (have hx2 := (bc w.heap.size 2 hz2).trans hx2); (have hx3 := (bc w.heap.size 3 hz2).trans hx3); (have hx4 := (bc w.heap.size 4 hz2).trans hx4); (have hz1 := hb3.size); (try simp at hz1); (have hz2 : w.heap.size < w3.heap.size := (by omega)); (clear bc bf hz1)))
  go_ret
  exact ⟨rfl, hB3⟩
set_option maxRecDepth 100000 in
set_option maxHeartbeats 4000000 in
theorem isaThere_yes (i a b c : Nat) (n : Int) (w : World) (R : Rts w) (hr : Ranged i a b c n) (hl : legalB i a b c n = true) :
    Calls Tryd.prog 9 #[ins i a b c n] w fun e w' => e = .returned (.bool true) ∧ Below w.heap.size w w' := by
  have hB0 : Below w.heap.size w (w.alloc (.cells #[.int .u8 i, .int .u8 a, .int .u8 b, .int .u8 c, .int .i32 n] 26)) := (Below.refl _ _).alloc (Nat.le_refl _) _
  have T := R.t
  have hss := show_size i a b c n hr.i2 hl hr.n0 hr.n1
  have HR : ∀ w', Below w.heap.size w w' → Calls Tryd.prog 28 #[.string (showS i a b c n)] w' fun e w'' => e = .returned (.tuple #[ins i a b c n, .int .i64 0]) ∧ Below w'.heap.size w' w'' := by
    intro w' hB
    rcases read_any (showS i a b c n) w' (R.on hB) hss with ⟨i', a', b', c', n', hr', hl', he, hc⟩ | ⟨hno, _⟩
    · obtain ⟨rfl, rfl, rfl, rfl, rfl⟩ := show_inj hr' hl' hr hl he
      exact hc
    · exact absurd rfl (hno i a b c n hr hl)
  have i0 : (0 : Int) ≤ i := by omega
  have i1 : (i : Int) < 256 := by have := hr.i2; omega
  have a0 : (0 : Int) ≤ a := by omega
  have b0 : (0 : Int) ≤ b := by omega
  have c0 : (0 : Int) ≤ c := by omega
  obtain ⟨s, hs⟩ : ∃ s, s = showS i a b c n := ⟨_, rfl⟩
  have hshow : ∀ w', Tabs w' → Calls Tryd.prog 21 #[ins i a b c n] w' fun e w'' => e = .returned (.tuple #[.string s, .bool true]) ∧ Below w'.heap.size w' w'' := fun w' T' => by
    rw [hs, ← hl]
    exact show_any i a b c n w' T' i0 i1 a0 b0 c0 hr.n0 hr.n1
  have hleg : ∀ w', Tabs w' → Calls Tryd.prog 25 #[ins i a b c n] w' fun e w'' => e = .returned (.bool true) ∧ Below w'.heap.size w' w'' := fun w' T' => by
    rw [← hl]; exact legal i a b c n w' i0 i1 a0 b0 c0 T'.tab T'.pos
  have HLG := Lib.hid hleg
  rw [← hs] at HR
  have HRR := Lib.hid HR
  have HSH := Lib.hid hshow
  have q := fun w' => eq5 i a b c n w'
  clear HR hs hss hshow hl hleg
  go_enter Tryd.func9, Tryd.ntmps9
  go_wp2_with (first | (go_at_call 21; refine (HSH.out _ (T.on hB0)).mono ?_; rintro e w1 ⟨rfl, hb1⟩; (have hB1 : Below w.heap.size w w1 := hB0.trans (hb1.mono hB0.size)); (obtain ⟨bc, bf⟩ := bcell hb1); (have hx0 := bc w.heap.size 0 (by simp)); (simp [World.cell?_alloc_new] at hx0); (have hx1 := bc w.heap.size 1 (by simp)); (simp [World.cell?_alloc_new] at hx1); (have hx2 := bc w.heap.size 2 (by simp)); (simp [World.cell?_alloc_new] at hx2); (have hx3 := bc w.heap.size 3 (by simp)); (simp [World.cell?_alloc_new] at hx3); (have hx4 := bc w.heap.size 4 (by simp)); (simp [World.cell?_alloc_new] at hx4); (have hz1 := hb1.size); (try simp at hz1); (have hz2 : w.heap.size < w1.heap.size := (by omega)); (clear bc bf hz1)) | (go_at_call 17; refine (known_t _ (T.on hB1)).mono ?_; rintro e w2 ⟨rfl, hb2⟩; (have hB2 : Below w.heap.size w w2 := hB1.trans (hb2.mono hB1.size)); (obtain ⟨bc, bf⟩ := bcell hb2); (have hx0 := (bc w.heap.size 0 hz2).trans hx0); (have hx1 := (bc w.heap.size 1 hz2).trans hx1); (have hx2 := (bc w.heap.size 2 hz2).trans hx2); (have hx3 := (bc w.heap.size 3 hz2).trans hx3); (have hx4 := (bc w.heap.size 4 hz2).trans hx4); (have hz1 := hb2.size); (try simp at hz1); (have hz2 : w.heap.size < w2.heap.size := (by omega)); (clear bc bf hz1)) | (go_at_call 25; refine (HLG.out _ (T.on hB2)).mono ?_; rintro e w3 ⟨rfl, hb3⟩; (have hB3 : Below w.heap.size w w3 := hB2.trans (hb3.mono hB2.size)); (obtain ⟨bc, bf⟩ := bcell hb3); (have hx0 := (bc w.heap.size 0 hz2).trans hx0); (have hx1 := (bc w.heap.size 1 hz2).trans hx1); (have hx2 := (bc w.heap.size 2 hz2).trans hx2); (have hx3 := (bc w.heap.size 3 hz2).trans hx3); (have hx4 := (bc w.heap.size 4 hz2).trans hx4); (have hz1 := hb3.size); (try simp at hz1); (have hz2 : w.heap.size < w3.heap.size := (by omega)); (clear bc bf hz1)) | (go_at_call 28; refine (HRR.out _ hB3).mono ?_; rintro e w4 ⟨rfl, hb4⟩; (have hB4 : Below w.heap.size w w4 := hB3.trans (hb4.mono hB3.size)); (obtain ⟨bc, bf⟩ := bcell hb4); (have hx0 := (bc w.heap.size 0 hz2).trans hx0); (have hx1 := (bc w.heap.size 1 hz2).trans hx1); (have hx2 := (bc w.heap.size 2 hz2).trans hx2); (have hx3 := (bc w.heap.size 3 hz2).trans hx3); (have hx4 := (bc w.heap.size 4 hz2).trans hx4); (have hz1 := hb4.size); (try simp at hz1); (have hz2 : w.heap.size < w4.heap.size := (by omega)); (clear bc bf hz1)))
  go_ret
  exact ⟨rfl, hB4.alloc hB4.size _⟩
theorem rts_laid {W : World} {l : List (String × DataW Unit)} (hsh : W.ShapedOpen Tryd.prog) (hp : (l.all fun x => x.2.handleName?.isNone) = true) (h : laidMetH Tryd.prog l W) (hx : ("bulkhead/isa.operations", Rows.laid_bulkhead_isa_operations) ∈ l)
    (hy : ("internal/strconv.uint64pow10", Rows.laid_internal_strconv_uint64pow10) ∈ l) (hu : ("strconv.ErrRange", Rows.laid_strconv_ErrRange) ∈ l) (hv : ("strconv.ErrSyntax", Rows.laid_strconv_ErrSyntax) ∈ l) : Rts W :=
  ⟨tabs_laid hp h hx hy, errs_laid hsh hp h hu hv, tabBlk_laid hp h hx⟩
theorem ranged_of {o a b c n : Int} (hl : legalB o a b c n = true) (ha : 0 ≤ a ∧ a < 256) (hb : 0 ≤ b ∧ b < 256) (hc : 0 ≤ c ∧ c < 256) (hn0 : -2147483648 ≤ n) (hn1 : n ≤ 2147483647) :
    ∃ i a' b' c' : Nat, o = i ∧ a = a' ∧ b = b' ∧ c = c' ∧ Ranged i a' b' c' n := by
  obtain ⟨k1, k2⟩ := legal_known hl
  exact ⟨o.toNat, a.toNat, b.toNat, c.toNat, by omega, by omega, by omega, by omega, by omega, by omega, by omega, by omega, by omega, hn0, hn1⟩
set_option maxRecDepth 100000 in
theorem isaThere_any {H : Type} (enc : TypeId × Value → H) (W : World) (hsh : W.ShapedOpen Tryd.prog) {base : Nat} {v0 : Value} {d0 : DataW H} {p0 : List MemPlace} (o0 : Value.okWide Tryd.prog W .any base 26 v0) (h0 : DataW.Trod enc Tryd.prog W 0 (fun _ => true) true 26 v0 d0 p0)
    (hsz : ∀ x ∈ DataW.weightsEach Tryd.prog [26] [d0], x ≤ reachBytes) (hL : laidMetH Tryd.prog Rows.isaThereRow.laid W) :
    Calls Tryd.prog 9 #[v0] W fun e w' => e = .returned (.bool true) ∧ Below W.heap.size W w' := by
  obtain ⟨o, a, b, c, n, rfl, ho, ha, hb, hc, hn0, hn1⟩ := open_instr o0 h0
  have R : Rts W := rts_laid hsh (by kernel_rfl) hL (by simp [Rows.isaThereRow]) (by simp [Rows.isaThereRow]) (by simp [Rows.isaThereRow]) (by simp [Rows.isaThereRow])
  rcases hl : legalB o a b c n with _ | _
  · exact isaThere_no o a b c n W R.t ho.1 ho.2 ha.1 hb.1 hc.1 hn0 hn1 hl
  · obtain ⟨i, a, b, c, rfl, rfl, rfl, rfl, hr⟩ := ranged_of hl ha hb hc hn0 hn1
    exact isaThere_yes i a b c n W R hr hl
end Go.Proofs.YtcbhkeinmdobhaaDoor
