import Derived.Test.YtjnnmgjpnbfhlaaFloat
import Derived.Test.YtjnnmgjpnbfhlaaTk0
import Derived.ProofKit
import Derived.WalkSpells
import Derived.WalkLawsBesides
import Derived.Handy
import Derived.Lib.Hide
import Derived.Outline
namespace Go.Proofs.Ytjnnmgjpnbfhlaa.Ticks
open Go.RowKit Go.Proofs.YtjnnmgjpnbfhlaaW.PrintWords Go.Proofs.YtjnnmgjpnbfhlaaW.PrintLast Go.Proofs.YtjnnmgjpnbfhlaaW.PrintMore Go.Proofs.Ytjnnmgjpnbfhlaa.PChannelTicks
set_option linter.unusedVariables false
set_option linter.unusedSimpArgs false

theorem info3 : (Try.prog.info? 3).map (fun i => (i.zero, i.size, i.bytes)) = some (some (.int .i64 0), 1, 8) := by kernel_rfl

set_option maxRecDepth 100000 in
set_option maxHeartbeats 1000000 in
abbrev box (kd fr : Int) (A : Option Addr) (n c0 : Nat) (ph pe : Int) : Obj := .cells #[.int .i64 kd, .int .i64 fr, .slice A n c0, .int .i64 ph, .int .i64 pe] 24
theorem xor_in (a : Int) : In64 (bits BinOp.xor IntKind.i64 a 1) := by
  have h : (Lit.int .i64 (bits BinOp.xor IntKind.i64 a 1)).wf = true := by simpa using wf_bits .xor .i64 a 1
  have := bounds_i64 h
  exact this
theorem R_block {e : TypeId} {w : World} {base : Nat} {ok : Nat → Prop} {v : Value} {xs : List Int} (h : (Kd.int .i64).R e w base ok v xs) (hn : 0 < xs.length) :
    ∃ g cap, v = .slice (some ⟨g, 0, none⟩) xs.length cap ∧ xs.length ≤ cap ∧ base ≤ g ∧ g < w.heap.size := by
  obtain ⟨inner, ho⟩ := Kd.R_own h
  obtain ⟨A, c, hv, hc, _⟩ := Kd.R_reads h
  rcases ho.2 with ⟨hv', he⟩ | ⟨g, cap, cur, hv', hb, hh, _⟩
  · rw [hv] at hv'
    injection hv' with _ h2 _
    omega
  · rw [hv] at hv'
    injection hv' with h1 h2 h3
    subst h1
    exact ⟨g, c, hv, hc, hb, blk_lt hh⟩
theorem R_empty (W : World) (base : Nat) (hb : base ≤ W.heap.size) : (Kd.int .i64).R 3 (W.alloc (.cells #[] 3)) base (fun _ => True) (.slice (some ⟨W.heap.size, 0, none⟩) 0 0) [] :=
  Kd.R_of_own (own_lit_of (enc := Value.int .i64) W base 3 [] hb (by simp)) (fun _ _ => trivial)
/-- a row stands while other rows are made and grow -/
def Rel2 (w w4 : World) (gD g5 cap5 n : Nat) (BD BC : Obj) (L : List Int) (i : Value) (wr : World) : Prop :=
  ∃ (k : Nat) (L' : List Int), k ≤ n ∧ i = .int .i64 k ∧ L'.length = L.length ∧ (Kd.int .i64).R 3 wr (w.heap.size + 1) (fun _ => True) (.slice (some ⟨g5, 0, none⟩) L.length cap5) L' ∧
    wr.heap[gD]? = some BD ∧ wr.heap[w.heap.size]? = some BC ∧ Below w.heap.size w wr ∧ w4.heap.size ≤ wr.heap.size
theorem blk5 {w : World} {g t : Nat} {a b c d e : Value} (h : w.heap[g]? = some (.cells #[a, b, c, d, e] t)) :
    w.cell? ⟨g, 0, none⟩ = some a ∧ w.cell? ⟨g, 1, none⟩ = some b ∧ w.cell? ⟨g, 2, none⟩ = some c ∧ w.cell? ⟨g, 3, none⟩ = some d ∧ w.cell? ⟨g, 4, none⟩ = some e := by
  refine ⟨?_, ?_, ?_, ?_, ?_⟩ <;> rw [blk_cell h] <;> rfl
theorem last_blk {W7 w9 : World} {n : Nat} {b : Obj} (hs : W7.heap.size = n) (hg : ((W7.alloc b).alloc (.cells #[] 3)).grownBy w9 (Value.slice (some ⟨n + 1, 0, none⟩) 0 0).ownBlock) : w9.heap[n]? = some b := by
  subst hs
  exact blk_grown (blk_alloc (blk_new W7 b) _) hg (by simp [Value.ownBlock])
theorem last_old {W7 w9 : World} {n g : Nat} {b o : Obj} (hs : W7.heap.size = n) (ho : W7.heap[g]? = some o) (hlt : g < W7.heap.size) (hg : ((W7.alloc b).alloc (.cells #[] 3)).grownBy w9 (Value.slice (some ⟨n + 1, 0, none⟩) 0 0).ownBlock) : w9.heap[g]? = some o := by
  subst hs
  exact blk_grown (blk_alloc (blk_alloc ho b) _) hg (by simp [Value.ownBlock]; omega)
theorem last_below {W7 w9 : World} {n : Nat} {b : Obj} (hs : W7.heap.size = n) (hg : ((W7.alloc b).alloc (.cells #[] 3)).grownBy w9 (Value.slice (some ⟨n + 1, 0, none⟩) 0 0).ownBlock) : Below W7.heap.size W7 w9 := by
  subst hs
  have h1 : Below W7.heap.size W7 ((W7.alloc b).alloc (.cells #[] 3)) := ((Below.refl _ _).alloc (Nat.le_refl _) _).alloc (by simp) _
  exact h1.grown hg (by simp; omega) (fun k hk => by simp [Value.ownBlock] at hk; omega)
theorem last_row {W7 w9 : World} {n m : Nat} {A : Option Addr} {L : List Int} {b : Obj} (hs : W7.heap.size = n) (hc : Kd.C (Kd.int .i64) W7 A m L) (hg : ((W7.alloc b).alloc (.cells #[] 3)).grownBy w9 (Value.slice (some ⟨n + 1, 0, none⟩) 0 0).ownBlock) : Kd.C (Kd.int .i64) w9 A m L :=
  Kd.C_below hc (last_below hs hg)
theorem row_store {W : World} {base g n cap : Nat} {L : List Int} (h : (Kd.int .i64).R 3 W base (fun _ => True) (.slice (some ⟨g, 0, none⟩) n cap) L) (k : Nat) (hk : k < n) :
    W.cell? ⟨g, k, none⟩ = some (.int .i64 (rd L k)) ∧ W.frozen? ⟨g, k, none⟩ = false ∧ ∀ x : Int, (Kd.int .i64).R 3 (W.setCell ⟨g, k, none⟩ (.int .i64 x)) base (fun _ => True) (.slice (some ⟨g, 0, none⟩) n cap) (L.set k x) := by
  obtain ⟨hn, _, _⟩ := Kd.R_reads' h
  have ho := Kd.own_of_R (enc := Value.int .i64) (h1 := fun _ => rfl) h
  rw [← hn] at ho
  have h1 := own_at_of (enc := Value.int .i64) (d := (0 : Int)) ho (k : Int) (by omega) (by omega)
  simp only [Int.toNat_natCast] at h1
  refine ⟨h1.1, h1.2, fun x => ?_⟩
  have h2 := (own_store_of (enc := Value.int .i64) ho (k : Int) x).1
  simp only [Int.toNat_natCast] at h2
  refine Kd.R_of_own (enc := Value.int .i64) (h1 := fun _ => rfl) ?_ (fun _ _ => trivial)
  rw [List.length_set, ← hn]
  exact h2
theorem R_stays {W w1 : World} {base : Nat} {ok : Nat → Prop} {v : Value} {xs : List Int} (h : (Kd.int .i64).R 3 W base ok v xs) {o : Obj} (hg : (W.alloc o).grownBy w1 (some W.heap.size)) : (Kd.int .i64).R 3 w1 base ok v xs := by
  refine Kd.R_mono (Kd.R_grown (Kd.R_below (Kd.R_bound h) (below_alloc (Below.refl _ _) o)) hg ?_) (fun _ hk => hk.1)
  intro k hk he
  injection he with he
  omega
theorem box_cells {w w' : World} {kd fr ph pe : Int} {A : Option Addr} {n c0 : Nat} (h : Below (w.heap.size + 1) (w.alloc (box kd fr A n c0 ph pe)) w') :
    w'.cell? ⟨w.heap.size, 0, none⟩ = some (.int .i64 kd) ∧ w'.cell? ⟨w.heap.size, 1, none⟩ = some (.int .i64 fr) ∧ w'.cell? ⟨w.heap.size, 2, none⟩ = some (.slice A n c0) ∧ w'.cell? ⟨w.heap.size, 3, none⟩ = some (.int .i64 ph) ∧ w'.cell? ⟨w.heap.size, 4, none⟩ = some (.int .i64 pe) := by
  refine ⟨?_, ?_, ?_, ?_, ?_⟩ <;> (rw [h.cell (by simp)]; simp [World.cell?_alloc_new])
def Rel1 (w0 : World) (B : Nat) (l : List Int) (v i : Value) (wr : World) : Prop :=
  ∃ k : Nat, k ≤ 8 ∧ i = .int .i64 k ∧ Kd.R (Kd.int .i64) 3 wr B (fun _ => True) v (l ++ List.replicate k 83) ∧ Below B w0 wr
set_option maxRecDepth 100000 in
set_option maxHeartbeats 1000000 in
theorem walk (kd fr : Int) (A : Option Addr) (c0 : Nat) (l : List Int) (ph pe t : Int) (w : World) (hl : Kd.C (Kd.int .i64) w A l.length l) (hc0 : l.length ≤ c0) (hsz : l.length * 8 ≤ 140737488351232) (hph : In64 ph) (hpe : In64 pe) (ht : In64 t) :
    Calls Try.prog 3 #[.agg #[.int .i64 kd, .int .i64 fr, .slice A l.length c0, .int .i64 ph, .int .i64 pe], .int .i64 t] w fun e w' => e = .returned (.bool true) ∧ Below w.heap.size w w' := by
  have HL0 := Lib.hid (Kd.C_alloc hl (box kd fr A l.length c0 ph pe))
  have HL := Lib.hid hl
  clear hl
  go_enter Try.func3, Try.ntmps3
  go_wp2_with (first | (at_builtin; go_loud (refine Kd.R_append_row (h1 := fun _ => rfl) (w0 := w.alloc (box kd fr A l.length c0 ph pe)) (Value.int .i64) (0 : Int) (w.heap.size + 1) rfl (.tmp 11) (.tmp 13) 22 3 (.int .i64 0) 8 rfl Try.underlying22 info3 rfl (by decide) (.slice none 0 0) [] l A l.length c0 (fun _ => True) rfl rfl ?_ ?_ ?_ ?_ ?_ ?_ ?_); go_must ((exact fun _ _ => trivial); (exact Kd.R_nil _ _ _ _ _); (exact HL0.out); (exact Below.refl _ _); (simp); (simp only [List.length_nil]; omega); (intro v1 w1 hr1 hb1 hg1 ho1); (have HR1 := Lib.hid hr1); (clear hr1))))
  go_loopw [5, 6] (fun v i wr => Rel1 (w.alloc (box kd fr A l.length c0 ph pe)) (w.heap.size + 1) l v i wr) (fun _ i _ => 8 - (intOf i).toNat)
  case atStart => exact ⟨0, by omega, rfl, by have h := HR1.out; rw [List.nil_append] at h; simp only [List.replicate_zero, List.append_nil]; exact h, hb1⟩
  case round =>
    obtain ⟨k, hk, rfl, hr2, hb2⟩ := hrel
    have HR2 := Lib.hid hr2
    have HB2 := Lib.hid hb2
    have hz2 := hb2.size
    simp at hz2
    clear hr2 hb2
    by_cases hlt : k < 8
    · go_wp2_with (first | (at_builtin; refine Kd.R_append (Kd.int .i64) (w0 := w.alloc (box kd fr A l.length c0 ph pe)) (w.heap.size + 1) rfl (.tmp 19) (.tmp 20) 22 3 (.int .i64 0) 8 rfl Try.underlying22 info3 rfl (by decide) (by omega) _ (l ++ List.replicate k 83) 83 [.int .i64 83] (fun _ => True) (fun _ => False) rfl rfl ?_ (fun _ hk => hk.elim) (fun _ _ => trivial) ?_ ?_ ?_ ?_ ?_; go_must ((exact rfl); (exact HR2.out); (exact HB2.out); (omega); (simp only [List.length_append, List.length_replicate]; omega); (intro v3 w3 hr3 hb3 hg3 ho3); (have HR3 := Lib.hid hr3); (clear hr3))))
      go_roundw
      case rel => exact ⟨k + 1, by omega, by go_num, by have h := HR3.out; rwa [List.append_assoc, ← List.replicate_succ'] at h, hb3⟩
      case measure => simp [intOf]; omega
    · obtain rfl : k = 8 := by omega
      obtain ⟨L, hLe⟩ : ∃ L : List Int, L = l ++ List.replicate 8 (83 : Int) := ⟨_, rfl⟩
      rw [← hLe] at HR2
      have hn8 : L.length = l.length + 8 := by rw [hLe]; simp
      have ht8 : L.take l.length = l := by rw [hLe]; simp
      have HT8 := Lib.hid ht8
      have HN8 := Lib.hid hn8
      clear ht8 hLe
      obtain ⟨g5, cap5, rfl, hcap5, hB5, hlt5⟩ := R_block HR2.out (by omega)
      obtain ⟨_, _, hC5⟩ := Kd.R_reads' HR2.out
      have HC5 := Lib.hid hC5
      have hnL : l.length ≤ L.length := by omega
      have hnc : l.length ≤ cap5 := by omega
      have hmx : L.length * 8 ≤ 140737488355328 := by omega
      clear hC5 hn8
      go_wp2_with (first | (at_builtin; refine Kd.R_append_row (h1 := fun _ => rfl) (w0 := w.alloc (box kd fr A l.length c0 ph pe)) (Value.int .i64) (0 : Int) (w.heap.size + 1) rfl (.tmp 22) (.tmp 23) 22 3 (.int .i64 0) 8 rfl Try.underlying22 info3 rfl (by decide) (.slice (some ⟨wr.heap.size, 0, none⟩) 0 0) [] L (some ⟨g5, 0, none⟩) L.length cap5 (fun _ => True) rfl rfl ?_ ?_ ?_ ?_ ?_ ?_ ?_; go_must ((exact fun _ _ => trivial); (exact R_empty wr (w.heap.size + 1) hz2); (exact Kd.C_alloc HC5.out _); (exact HB2.out.alloc hz2 _); (simp; omega); (simp only [List.length_nil, Nat.zero_add]; exact hmx); (intro v3 w3 hr3 hb3 hg3 ho3); (have HR3 := Lib.hid hr3); (have HR5 := Lib.hid (R_stays HR2.out hg3)); (have HB3 := Lib.hid hb3); (obtain ⟨x0, x1, x2, x3, x4⟩ := box_cells hb3); (have hz3 := hb3.size); (simp at hz3); (have hz53 := hg3.size); (simp at hz53); (have hlt3 : w.heap.size < w3.heap.size := (by omega)); (clear hr3 hb3 hg3 ho3))))
      have hrw := HR3.out
      rw [List.nil_append] at hrw
      obtain ⟨A7, c7, rfl, hc7, hC7⟩ := Kd.R_reads hrw
      obtain ⟨_, _, hC5'⟩ := Kd.R_reads' HR5.out
      have hCt := Kd.C_take (m := l.length) hC5' hnL
      rw [HT8.out] at hCt
      have hCA : Kd.C (Kd.int .i64) w3 A l.length l := by
        have h1 := HB3.out
        exact Kd.C_below HL0.out (h1.mono (by simp))
      obtain ⟨WR, hWR⟩ : ∃ WR : World, WR = w3.alloc (box kd fr (some ⟨g5, 0, none⟩) l.length cap5 ph pe) := ⟨_, rfl⟩
      have HF : ∀ w', Below WR.heap.size WR w' → Below w3.heap.size w3 w' := fun w' h => by
        subst hWR
        exact ((Below.refl _ _).alloc (Nat.le_refl _) _).trans (h.mono (by simp))
      have HCD : ∀ w', Below WR.heap.size WR w' → w'.cell? ⟨w3.heap.size, 0, none⟩ = some (.int .i64 kd) ∧ w'.cell? ⟨w3.heap.size, 1, none⟩ = some (.int .i64 fr) ∧ w'.cell? ⟨w3.heap.size, 2, none⟩ = some (.slice (some ⟨g5, 0, none⟩) l.length cap5) ∧ w'.cell? ⟨w3.heap.size, 3, none⟩ = some (.int .i64 ph) ∧ w'.cell? ⟨w3.heap.size, 4, none⟩ = some (.int .i64 pe) := fun w' h => by
        subst hWR
        exact box_cells (h.mono (by simp))
      have HCC : ∀ w', Below WR.heap.size WR w' → w'.cell? ⟨w.heap.size, 0, none⟩ = some (.int .i64 kd) ∧ w'.cell? ⟨w.heap.size, 1, none⟩ = some (.int .i64 fr) ∧ w'.cell? ⟨w.heap.size, 2, none⟩ = some (.slice A l.length c0) ∧ w'.cell? ⟨w.heap.size, 3, none⟩ = some (.int .i64 ph) ∧ w'.cell? ⟨w.heap.size, 4, none⟩ = some (.int .i64 pe) := fun w' h => by
        exact box_cells (HB3.out.trans ((HF w' h).mono (by omega)))
      obtain ⟨kD, bD, hD1, hD2⟩ := due_eq kd fr l l ph pe t hph hpe ht
      obtain ⟨kN, nN, hN1, hN2⟩ := next_eq kd fr l l ph pe t hph hpe ht
      obtain ⟨kS, hS⟩ := same_self L hmx
      have FD : ∀ w', Below WR.heap.size WR w' → Calls Try.prog 6 #[.agg #[.int .i64 kd, .int .i64 fr, .slice (some ⟨g5, 0, none⟩) l.length cap5, .int .i64 ph, .int .i64 pe], .int .i64 t] w' fun e w'' => e = .returned (.bool bD) ∧ Below WR.heap.size WR w'' := fun w' h =>
        (channel_Due.calls kD kd fr _ _ l ph pe t bD w' (Kd.C_below hCt (HF w' h)) hnc hD1).mono fun e w'' h2 => ⟨h2.1, h.trans (h2.2.mono h.size)⟩
      have FE : ∀ w', Below WR.heap.size WR w' → Calls Try.prog 7 #[.agg #[.int .i64 kd, .int .i64 fr, .slice A l.length c0, .int .i64 ph, .int .i64 pe], .int .i64 t] w' fun e w'' => e = .returned (.bool bD) ∧ Below WR.heap.size WR w'' := fun w' h =>
        (bulkheadref18_Due.calls kd fr _ _ l ph pe t bD w' (Kd.C_below hCA (HF w' h)) hc0 hD2).mono fun e w'' h2 => ⟨h2.1, h.trans (h2.2.mono h.size)⟩
      have FN : ∀ w', Below WR.heap.size WR w' → Calls Try.prog 8 #[.agg #[.int .i64 kd, .int .i64 fr, .slice (some ⟨g5, 0, none⟩) l.length cap5, .int .i64 ph, .int .i64 pe], .int .i64 t] w' fun e w'' => e = .returned (.int .i64 nN) ∧ Below WR.heap.size WR w'' := fun w' h =>
        (channel_Next.calls kN kd fr _ _ l ph pe t nN w' (Kd.C_below hCt (HF w' h)) hnc hN1).mono fun e w'' h2 => ⟨h2.1, h.trans (h2.2.mono h.size)⟩
      have FM : ∀ w', Below WR.heap.size WR w' → Calls Try.prog 9 #[.agg #[.int .i64 kd, .int .i64 fr, .slice A l.length c0, .int .i64 ph, .int .i64 pe], .int .i64 t] w' fun e w'' => e = .returned (.int .i64 nN) ∧ Below WR.heap.size WR w'' := fun w' h =>
        (bulkheadref18_Next.calls kN kd fr _ _ l ph pe t nN w' (Kd.C_below hCA (HF w' h)) hc0 hN2).mono fun e w'' h2 => ⟨h2.1, h.trans (h2.2.mono h.size)⟩
      have FS : ∀ w', Below WR.heap.size WR w' → Calls Try.prog 10 #[.slice (some ⟨g5, 0, none⟩) L.length cap5, .slice A7 L.length c7] w' fun e w'' => e = .returned (.bool true) ∧ Below WR.heap.size WR w'' := fun w' h =>
        (bulkheadlaw18_sameInts.calls kS _ _ L _ _ L true w' (Kd.C_below hC5' (HF w' h)) hcap5 (Kd.C_below hC7 (HF w' h)) hc7 hS).mono fun e w'' h2 => ⟨h2.1, h.trans (h2.2.below.mono h.size)⟩
      rw [← box, ← hWR]
      refine Float.wp_region_below (by kernel_rfl) (by kernel_rfl) ?_
      refine Float.step (v := .agg #[.int .i64 kd, .int .i64 fr, .slice (some ⟨g5, 0, none⟩) l.length cap5, .int .i64 ph, .int .i64 pe]) (by rfl) (fun w' hw' => Float.value_at ?_) ?_
      · obtain ⟨y0, y1, y2, y3, y4⟩ := HCD w' hw'
        go_simp
      go_frame
      refine Float.step (v := .int .i64 t) (by rfl) (fun w' hw' => Float.value_at ?_) ?_
      · go_simp
      go_frame
      refine Float.step (v := .bool bD) (by rfl) (fun w' hw' => Float.call_at ?_ (FD w' hw')) ?_
      · go_simp
      go_frame
      refine Float.step (v := .agg #[.int .i64 kd, .int .i64 fr, .slice A l.length c0, .int .i64 ph, .int .i64 pe]) (by rfl) (fun w' hw' => Float.value_at ?_) ?_
      · obtain ⟨y0, y1, y2, y3, y4⟩ := HCC w' hw'
        go_simp
      go_frame
      refine Float.step (v := .int .i64 t) (by rfl) (fun w' hw' => Float.value_at ?_) ?_
      · go_simp
      go_frame
      refine Float.step (v := .bool bD) (by rfl) (fun w' hw' => Float.call_at ?_ (FE w' hw')) ?_
      · go_simp
      go_frame
      refine Float.step (v := .bool false) (by rfl) (fun w' hw' => Float.value_at ?_) ?_
      · go_simp
      go_frame
      refine Float.step (v := .bool false) (by rfl) (fun w' hw' => Float.value_at ?_) ?_
      · go_simp
      go_frame
      refine Float.step (v := .agg #[.int .i64 kd, .int .i64 fr, .slice (some ⟨g5, 0, none⟩) l.length cap5, .int .i64 ph, .int .i64 pe]) (by rfl) (fun w' hw' => Float.value_at ?_) ?_
      · obtain ⟨y0, y1, y2, y3, y4⟩ := HCD w' hw'
        go_simp
      go_frame
      refine Float.step (v := .int .i64 t) (by rfl) (fun w' hw' => Float.value_at ?_) ?_
      · go_simp
      go_frame
      refine Float.step (v := .int .i64 nN) (by rfl) (fun w' hw' => Float.call_at ?_ (FN w' hw')) ?_
      · go_simp
      go_frame
      refine Float.step (v := .agg #[.int .i64 kd, .int .i64 fr, .slice A l.length c0, .int .i64 ph, .int .i64 pe]) (by rfl) (fun w' hw' => Float.value_at ?_) ?_
      · obtain ⟨y0, y1, y2, y3, y4⟩ := HCC w' hw'
        go_simp
      go_frame
      refine Float.step (v := .int .i64 t) (by rfl) (fun w' hw' => Float.value_at ?_) ?_
      · go_simp
      go_frame
      refine Float.step (v := .int .i64 nN) (by rfl) (fun w' hw' => Float.call_at ?_ (FM w' hw')) ?_
      · go_simp
      go_frame
      refine Float.step (v := .bool false) (by rfl) (fun w' hw' => Float.value_at ?_) ?_
      · go_simp
      go_frame
      refine Float.step (v := .bool false) (by rfl) (fun w' hw' => Float.value_at ?_) ?_
      · go_simp
      go_frame
      refine Float.step (v := .bool false) (by rfl) (fun w' hw' => Float.value_at ?_) ?_
      · go_simp
      go_frame
      refine Float.step (v := .slice (some ⟨g5, 0, none⟩) L.length cap5) (by rfl) (fun w' hw' => Float.value_at ?_) ?_
      · go_simp
      go_frame
      refine Float.step (v := .slice A7 L.length c7) (by rfl) (fun w' hw' => Float.value_at ?_) ?_
      · go_simp
      go_frame
      refine Float.step (v := .bool true) (by rfl) (fun w' hw' => Float.call_at ?_ (FS w' hw')) ?_
      · go_simp
      go_frame
      refine Float.step (v := .bool false) (by rfl) (fun w' hw' => Float.value_at ?_) ?_
      · go_simp
      go_frame
      refine Float.step (v := .bool false) (by rfl) (fun w' hw' => Float.value_at ?_) ?_
      · go_simp
      go_frame
      refine wpQuiet_nil ?_
      intro w4 hB4
      have hr4 := Kd.R_below HR5.out (HF w4 hB4)
      have hb4 : Below w.heap.size w w4 := (((Below.refl _ _).alloc (Nat.le_refl _) _).trans (HB3.out.mono (by omega))).trans ((HF w4 hB4).mono (by omega))
      have hd4 : w4.heap[w3.heap.size]? = some (box kd fr (some ⟨g5, 0, none⟩) l.length cap5 ph pe) := by
        subst hWR
        exact blk_below (blk_new w3 _) hB4
      have hc4 : w4.heap[w.heap.size]? = some (box kd fr A l.length c0 ph pe) := by
        refine blk_below (w := w3) ?_ (HF w4 hB4)
        exact blk_below (w := w.alloc (box kd fr A l.length c0 ph pe)) (blk_new w _) (HB3.out.mono (by simp))
      have HR4 := Lib.hid hr4
      have HB5 := Lib.hid hb4
      have HD4 := Lib.hid hd4
      have HC4 := Lib.hid hc4
      clear hr4 hb4 hd4 hc4 FD FE FN FM FS HCD HCC HF hD1 hD2 hN1 hN2 hS hC5' hCt hCA hC7 hrw HR3 HB3 HR5
      clear x0 x1 x2 x3 x4
      go_wp2
      have hg5 : g5 < w3.heap.size := Nat.lt_of_lt_of_le hlt5 (by omega)
      go_loopw [9] (fun i wr => Rel2 w w4 w3.heap.size g5 cap5 l.length (box kd fr (some ⟨g5, 0, none⟩) l.length cap5 ph pe) (box kd fr A l.length c0 ph pe) L i wr) (fun i _ => l.length - (intOf i).toNat)
      case atStart => exact ⟨0, L, by omega, rfl, rfl, HR4.out, HD4.out, HC4.out, HB5.out, Nat.le_refl _⟩
      case round =>
        obtain ⟨k, L', hk', rfl, hLL, hr6, hd6, hc6, hb6, hz6⟩ := hrel
        obtain ⟨y0, y1, y2, y3, y4⟩ := blk5 hc6
        have HR6 := Lib.hid hr6
        have HD6 := Lib.hid hd6
        have HC6 := Lib.hid hc6
        have HB6 := Lib.hid hb6
        have HLL := Lib.hid hLL
        clear hr6 hd6 hc6 hb6 hLL
        by_cases hlt2 : k < l.length
        · obtain ⟨hcl, hfz, hst⟩ := row_store HR6.out k (by omega)
          have HST := Lib.hid hst
          have hkL : k < L.length := by omega
          clear hst
          go_wp2
          go_roundw
          case rel => exact ⟨k + 1, _, by omega, by go_num, by rw [List.length_set]; exact HLL.out, HST.out _, blk_far HD6.out (p := ⟨g5, k, none⟩) (by show _ ≠ g5; omega) _, blk_far HC6.out (p := ⟨g5, k, none⟩) (by show _ ≠ g5; omega) _, HB6.out.setCell (p := ⟨g5, k, none⟩) (by show _ ≤ g5; omega) _, by simp; exact hz6⟩
          case measure => simp [intOf]; omega
        · obtain rfl : k = l.length := by omega
          obtain ⟨z0, z1, z2, z3, z4⟩ := blk5 HD6.out
          have hfz := blk_frozen HD6.out 3
          have hzD : w3.heap.size < wr.heap.size := blk_lt HD6.out
          have hzC : w.heap.size < wr.heap.size := blk_lt HC6.out
          obtain ⟨X, hX⟩ : ∃ X, X = bits BinOp.xor IntKind.i64 ph 1 := ⟨_, rfl⟩
          obtain ⟨W7, hW7⟩ : ∃ W7 : World, W7 = wr.setCell ⟨w3.heap.size, 3, none⟩ (.int .i64 (bits BinOp.xor IntKind.i64 ph 1)) := ⟨_, rfl⟩
          have hs7 : W7.heap.size = wr.heap.size := by rw [hW7]; simp
          have hd7 : W7.heap[w3.heap.size]? = some (box kd fr (some ⟨g5, 0, none⟩) l.length cap5 X pe) := by rw [hW7, hX]; exact blk_set HD6.out 3 _
          have hb7 : Below w.heap.size w W7 := by rw [hW7]; exact HB6.out.setCell (p := ⟨w3.heap.size, 3, none⟩) (by show _ ≤ w3.heap.size; omega) _
          have hr7 : (Kd.int .i64).R 3 W7 (w.heap.size + 1) (fun _ => True) (.slice (some ⟨g5, 0, none⟩) L.length cap5) L' := by rw [hW7]; exact Kd.R_set HR6.out HD6.out (by intro q hq; simp [Kd.int, Kd.scalar] at hq; omega) 3 _
          obtain ⟨hLn, _, hC7'⟩ := Kd.R_reads' hr7
          have hCt7 := Kd.C_take (m := l.length) hC7' (by omega)
          have htl : (L'.take l.length).length = l.length := by simp; omega
          rw [htl] at hCt7
          obtain ⟨T, hTT⟩ : ∃ T : List Int, T = L'.take l.length := ⟨_, rfl⟩
          rw [← hTT] at hCt7 htl
          clear hTT
          have HW7 := Lib.hid hW7
          have HX := Lib.hid hX
          have HS7 := Lib.hid hs7
          have HD7 := Lib.hid hd7
          have HB7 := Lib.hid hb7
          have HR7 := Lib.hid hr7
          have HC7 := Lib.hid hCt7
          have HTL := Lib.hid htl
          clear hW7 hs7 hd7 hb7 hr7 hCt7 hC7' htl hX hLn
          have hem : (Kd.int .i64).R 3 ((W7.alloc (box kd fr A l.length c0 X pe)).alloc (.cells #[] 3)) w.heap.size (fun _ => True) (.slice (some ⟨wr.heap.size + 1, 0, none⟩) 0 0) [] := by
            have h := R_empty (W7.alloc (box kd fr A l.length c0 X pe)) w.heap.size (by simp [HS7.out]; omega)
            simpa [HS7.out] using h
          have HEM := Lib.hid hem
          clear hem
          go_wp2_with (first | (at_builtin; go_must (rw [← HW7.out, ← HX.out]; refine Kd.R_append_row (h1 := fun _ => rfl) (w0 := w) (Value.int .i64) (0 : Int) w.heap.size rfl (.tmp 77) (.tmp 79) 22 3 (.int .i64 0) 8 rfl Try.underlying22 info3 rfl (by decide) (.slice (some ⟨wr.heap.size + 1, 0, none⟩) 0 0) [] T (some ⟨g5, 0, none⟩) l.length cap5 (fun _ => True) rfl rfl ?_ ?_ ?_ ?_ ?_ ?_ ?_; (exact fun _ _ => trivial); (exact HEM.out); (exact Kd.C_alloc (Kd.C_alloc HC7.out _) _); (exact (HB7.out.alloc (by rw [HS7.out]; omega) _).alloc (by simp [HS7.out]; omega) _); (simp [HS7.out]; omega); (simp only [List.length_nil, Nat.zero_add]; omega); (intro v9 w9 hr9 hb9 hg9 ho9); (rw [List.nil_append] at hr9); (obtain ⟨A9, c9, rfl, hc9, hC9⟩ := Kd.R_reads hr9); (have hE9 := last_blk (W7 := W7) HS7.out hg9); (have hD9 := last_old (W7 := W7) HS7.out HD7.out (by rw [HS7.out]; exact hzD) hg9); (have hT9 := last_row (W7 := W7) HS7.out HC7.out hg9); (obtain ⟨q0, q1, q2, q3, q4⟩ := blk5 hE9); (have hqz := blk_frozen hE9 2); (have hz9 := blk_lt hE9); (have HE9 := Lib.hid hE9); (have HD9 := Lib.hid hD9); (have HT9 := Lib.hid hT9); (have HC9 := Lib.hid hC9); (have HB9 := Lib.hid hb9); (have HR9 := Lib.hid hr9); (clear hE9 hD9 hT9 hC9 hb9 hr9 hg9 ho9))))
          obtain ⟨kD', bD', hD1', hD2'⟩ := due_eq kd fr T T X pe t (by rw [HX.out]; exact xor_in ph) hpe ht
          obtain ⟨kN', nN', hN1', hN2'⟩ := next_eq kd fr T T X pe t (by rw [HX.out]; exact xor_in ph) hpe ht
          obtain ⟨WR, hWR⟩ : ∃ WR : World, WR = w9.setCell ⟨wr.heap.size, 2, none⟩ (.slice A9 T.length c9) := ⟨_, rfl⟩
          have hDW : WR.heap[w3.heap.size]? = some (box kd fr (some ⟨g5, 0, none⟩) l.length cap5 X pe) := by rw [hWR]; exact blk_far HD9.out (p := ⟨wr.heap.size, 2, none⟩) (by show _ ≠ wr.heap.size; omega) _
          have hEW : WR.heap[wr.heap.size]? = some (box kd fr A9 T.length c9 X pe) := by rw [hWR]; exact blk_set HE9.out 2 _
          have hTW : Kd.C (Kd.int .i64) WR (some ⟨g5, 0, none⟩) l.length T := by
            rw [hWR]
            exact Kd.C_keep (d := (0 : Int)) (enc := Value.int .i64) (h1 := fun _ => rfl) HT9.out ((KeepBut.refl w9 wr.heap.size none).set_ 2 _) (fun ad h1 h2 => by injection h1 with h1; subst h1; show g5 ≠ wr.heap.size; omega)
          have hCW : Kd.C (Kd.int .i64) WR A9 T.length T := by
            have h := Kd.R_set HR9.out HE9.out (by intro q hq; simp [Kd.int, Kd.scalar] at hq; omega) 2 (.slice A9 T.length c9)
            obtain ⟨_, _, h3⟩ := Kd.R_reads' h
            rw [hWR]; exact h3
          have hBW : Below w.heap.size w WR := by rw [hWR]; exact HB9.out.setCell (p := ⟨wr.heap.size, 2, none⟩) (by show _ ≤ wr.heap.size; omega) _
          have HCD : ∀ w', Below WR.heap.size WR w' → w'.cell? ⟨w3.heap.size, 0, none⟩ = some (.int .i64 kd) ∧ w'.cell? ⟨w3.heap.size, 1, none⟩ = some (.int .i64 fr) ∧ w'.cell? ⟨w3.heap.size, 2, none⟩ = some (.slice (some ⟨g5, 0, none⟩) l.length cap5) ∧ w'.cell? ⟨w3.heap.size, 3, none⟩ = some (.int .i64 X) ∧ w'.cell? ⟨w3.heap.size, 4, none⟩ = some (.int .i64 pe) := fun w' h => blk5 (blk_below hDW h)
          have HCE : ∀ w', Below WR.heap.size WR w' → w'.cell? ⟨wr.heap.size, 0, none⟩ = some (.int .i64 kd) ∧ w'.cell? ⟨wr.heap.size, 1, none⟩ = some (.int .i64 fr) ∧ w'.cell? ⟨wr.heap.size, 2, none⟩ = some (.slice A9 T.length c9) ∧ w'.cell? ⟨wr.heap.size, 3, none⟩ = some (.int .i64 X) ∧ w'.cell? ⟨wr.heap.size, 4, none⟩ = some (.int .i64 pe) := fun w' h => blk5 (blk_below hEW h)
          have FD : ∀ w', Below WR.heap.size WR w' → Calls Try.prog 6 #[.agg #[.int .i64 kd, .int .i64 fr, .slice (some ⟨g5, 0, none⟩) l.length cap5, .int .i64 X, .int .i64 pe], .int .i64 t] w' fun e w'' => e = .returned (.bool bD') ∧ Below WR.heap.size WR w'' := fun w' h => by
            have hc := channel_Due.calls kD' kd fr (some ⟨g5, 0, none⟩) cap5 T X pe t bD' w' (by rw [HTL.out]; exact Kd.C_below hTW h) (by rw [HTL.out]; exact hnc) hD1'
            rw [HTL.out] at hc
            exact hc.mono fun e w'' h2 => ⟨h2.1, h.trans (h2.2.mono h.size)⟩
          have FE : ∀ w', Below WR.heap.size WR w' → Calls Try.prog 7 #[.agg #[.int .i64 kd, .int .i64 fr, .slice A9 T.length c9, .int .i64 X, .int .i64 pe], .int .i64 t] w' fun e w'' => e = .returned (.bool bD') ∧ Below WR.heap.size WR w'' := fun w' h => by
            have hc := bulkheadref18_Due.calls kd fr A9 c9 T X pe t bD' w' (Kd.C_below hCW h) hc9 hD2'
            exact hc.mono fun e w'' h2 => ⟨h2.1, h.trans (h2.2.mono h.size)⟩
          have FN : ∀ w', Below WR.heap.size WR w' → Calls Try.prog 8 #[.agg #[.int .i64 kd, .int .i64 fr, .slice (some ⟨g5, 0, none⟩) l.length cap5, .int .i64 X, .int .i64 pe], .int .i64 t] w' fun e w'' => e = .returned (.int .i64 nN') ∧ Below WR.heap.size WR w'' := fun w' h => by
            have hc := channel_Next.calls kN' kd fr (some ⟨g5, 0, none⟩) cap5 T X pe t nN' w' (by rw [HTL.out]; exact Kd.C_below hTW h) (by rw [HTL.out]; exact hnc) hN1'
            rw [HTL.out] at hc
            exact hc.mono fun e w'' h2 => ⟨h2.1, h.trans (h2.2.mono h.size)⟩
          have FM : ∀ w', Below WR.heap.size WR w' → Calls Try.prog 9 #[.agg #[.int .i64 kd, .int .i64 fr, .slice A9 T.length c9, .int .i64 X, .int .i64 pe], .int .i64 t] w' fun e w'' => e = .returned (.int .i64 nN') ∧ Below WR.heap.size WR w'' := fun w' h => by
            have hc := bulkheadref18_Next.calls kN' kd fr A9 c9 T X pe t nN' w' (Kd.C_below hCW h) hc9 hN2'
            exact hc.mono fun e w'' h2 => ⟨h2.1, h.trans (h2.2.mono h.size)⟩
          rw [← hWR]
          refine Float.wp_region_below (by kernel_rfl) (by kernel_rfl) ?_
          refine Float.step (v := (.agg #[.int .i64 kd, .int .i64 fr, .slice (some ⟨g5, 0, none⟩) l.length cap5, .int .i64 X, .int .i64 pe])) (by rfl) (fun w' hw' => Float.value_at ?_) ?_
          · obtain ⟨y0, y1, y2, y3, y4⟩ := HCD w' hw'
            go_simp
          go_frame
          refine Float.step (v := .int .i64 t) (by rfl) (fun w' hw' => Float.value_at ?_) ?_
          · go_simp
          go_frame
          refine Float.step (v := .bool bD') (by rfl) (fun w' hw' => Float.call_at ?_ (FD w' hw')) ?_
          · go_simp
          go_frame
          refine Float.step (v := (.agg #[.int .i64 kd, .int .i64 fr, .slice A9 T.length c9, .int .i64 X, .int .i64 pe])) (by rfl) (fun w' hw' => Float.value_at ?_) ?_
          · obtain ⟨y0, y1, y2, y3, y4⟩ := HCE w' hw'
            go_simp
          go_frame
          refine Float.step (v := .int .i64 t) (by rfl) (fun w' hw' => Float.value_at ?_) ?_
          · go_simp
          go_frame
          refine Float.step (v := .bool bD') (by rfl) (fun w' hw' => Float.call_at ?_ (FE w' hw')) ?_
          · go_simp
          go_frame
          refine Float.step (v := .bool true) (by rfl) (fun w' hw' => Float.value_at ?_) ?_
          · go_simp
          go_frame
          refine Float.step (v := .bool true) (by rfl) (fun w' hw' => Float.value_at ?_) ?_
          · go_simp
          go_frame
          refine Float.step (v := (.agg #[.int .i64 kd, .int .i64 fr, .slice (some ⟨g5, 0, none⟩) l.length cap5, .int .i64 X, .int .i64 pe])) (by rfl) (fun w' hw' => Float.value_at ?_) ?_
          · obtain ⟨y0, y1, y2, y3, y4⟩ := HCD w' hw'
            go_simp
          go_frame
          refine Float.step (v := .int .i64 t) (by rfl) (fun w' hw' => Float.value_at ?_) ?_
          · go_simp
          go_frame
          refine Float.step (v := .int .i64 nN') (by rfl) (fun w' hw' => Float.call_at ?_ (FN w' hw')) ?_
          · go_simp
          go_frame
          refine Float.step (v := (.agg #[.int .i64 kd, .int .i64 fr, .slice A9 T.length c9, .int .i64 X, .int .i64 pe])) (by rfl) (fun w' hw' => Float.value_at ?_) ?_
          · obtain ⟨y0, y1, y2, y3, y4⟩ := HCE w' hw'
            go_simp
          go_frame
          refine Float.step (v := .int .i64 t) (by rfl) (fun w' hw' => Float.value_at ?_) ?_
          · go_simp
          go_frame
          refine Float.step (v := .int .i64 nN') (by rfl) (fun w' hw' => Float.call_at ?_ (FM w' hw')) ?_
          · go_simp
          go_frame
          refine Float.step (v := .bool true) (by rfl) (fun w' hw' => Float.value_at ?_) ?_
          · go_simp
          go_frame
          refine Float.step (v := .bool true) (by rfl) (fun w' hw' => Float.value_at ?_) ?_
          · go_simp
          go_frame
          refine Float.step (v := .bool true) (by rfl) (fun w' hw' => Float.value_at ?_) ?_
          · go_simp
          go_frame
          refine wpQuiet_nil ?_
          intro w10 hB10
          go_wp2
          go_ret
          exact ⟨rfl, hBW.trans (hB10.mono hBW.size)⟩
end Go.Proofs.Ytjnnmgjpnbfhlaa.Ticks
