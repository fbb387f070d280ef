import Derived.Test.YtcbhkeinmdobhaaDoorWd
import Derived.Test.YtcbhkeinmdobhaaDoorPg
namespace Go.Proofs.YtcbhkeinmdobhaaDoor
open Go.ChangeShapes Go.WideShapes Go.ChangeAt Go.RowKit
set_option linter.unusedVariables false
set_option linter.unusedSimpArgs false

/-- the fields behind k operands -/
def pf (L : List UInt8) (ws : List ByteArray) : Nat → Nat × Nat × Nat × Int
  | 0 => (0, 0, 0, 0)
  | k + 1 =>
    let p := pf L ws k
    let word := (ws.getD (k + 1) ⟨#[]⟩).data.toList
    if L.getD k 0 = 97 then (puS (Lib.trimPrefix word [114]), p.2.1, p.2.2.1, p.2.2.2)
    else if L.getD k 0 = 98 then (p.1, puS (Lib.trimPrefix word [114]), p.2.2.1, p.2.2.2)
    else if L.getD k 0 = 99 then (p.1, p.2.1, puS (Lib.trimPrefix word [114]), p.2.2.2)
    else (p.1, p.2.1, p.2.2.1, piS word)
structure Rts (w : World) : Prop where
  t : Tabs w
  e : Errs w
  b : TabBlk w
theorem Rts.on {w w' : World} (h : Rts w) (hb : Below w.heap.size w w') : Rts w' := ⟨h.t.on hb, h.e.on hb, tabBlk_on h.b hb⟩
theorem split_r (s : ByteArray) (ws : List ByteArray) (hs : s.size ≤ 2000000) (hws : ws = wordsP s) (w W : World) (R : Rts w) (hB : Below w.heap.size w W) :
    Calls Tryd.prog 38 #[.string s, .string ⟨#[32]⟩] W fun e w' => e = .returned (.slice (some ⟨W.heap.size, 0, none⟩) ws.length ws.length) ∧ w' = W.alloc (.cells (ws.map Value.string).toArray 9) := by
  rw [hws]
  exact split_c s hs W (R.on hB).e
theorem parseU_w (l : List UInt8) (u : Nat) (hu : u = puS l) (hs : l.length ≤ 2000000) (w : World) (E : Errs w) :
    Calls Tryd.prog 40 #[.string ⟨l.toArray⟩, .int .i64 10, .int .i64 8] w fun e w' => (∃ er, e = .returned (.tuple #[.int .u64 (u : Nat), er])) ∧ Below w.heap.size w w' := by
  rw [hu]
  exact parseU ⟨l.toArray⟩ (by simpa [ByteArray.size] using hs) w E
theorem letter_at (i k : Nat) (hk : k < (shapeB i).size) (c : UInt8) (h : (((shapeB i)[k].toNat : Nat) : Int) = (c.toNat : Int)) : (shapeB i).data.toList.getD k 0 = c := by
  have e : (shapeB i)[k] = c := UInt8.toNat_inj.1 (by omega)
  rw [← e, List.getD_eq_getElem?_getD, List.getElem?_eq_getElem (by simpa using hk)]
  simp [ByteArray.getElem_eq_getElem_data]
theorem word_at (ws : List ByteArray) (k : Nat) (hk : k + 1 < ws.length) : ws.getD (k + 1) ⟨#[]⟩ = ws[k + 1] := by
  rw [List.getD_eq_getElem?_getD, List.getElem?_eq_getElem hk]
  rfl
theorem pf_a (i k : Nat) (ws : List ByteArray) (hk : k < (shapeB i).size) (hw : k + 1 < ws.length) (h : (((shapeB i)[k].toNat : Nat) : Int) = 97) :
    pf (shapeB i).data.toList ws (k + 1) = (puS (Lib.trimPrefix (ws[k + 1]).data.toList [114]), (pf (shapeB i).data.toList ws k).2.1, (pf (shapeB i).data.toList ws k).2.2.1, (pf (shapeB i).data.toList ws k).2.2.2) := by
  have e := letter_at i k hk 97 h
  have e2 := word_at ws k hw
  simp only [pf]
  rw [e, e2, if_pos rfl]
theorem pf_b (i k : Nat) (ws : List ByteArray) (hk : k < (shapeB i).size) (hw : k + 1 < ws.length) (h : (((shapeB i)[k].toNat : Nat) : Int) = 98) :
    pf (shapeB i).data.toList ws (k + 1) = ((pf (shapeB i).data.toList ws k).1, puS (Lib.trimPrefix (ws[k + 1]).data.toList [114]), (pf (shapeB i).data.toList ws k).2.2.1, (pf (shapeB i).data.toList ws k).2.2.2) := by
  have e := letter_at i k hk 98 h
  have e2 := word_at ws k hw
  simp only [pf]
  rw [e, e2, if_neg (by decide), if_pos rfl]
theorem pf_c (i k : Nat) (ws : List ByteArray) (hk : k < (shapeB i).size) (hw : k + 1 < ws.length) (h : (((shapeB i)[k].toNat : Nat) : Int) = 99) :
    pf (shapeB i).data.toList ws (k + 1) = ((pf (shapeB i).data.toList ws k).1, (pf (shapeB i).data.toList ws k).2.1, puS (Lib.trimPrefix (ws[k + 1]).data.toList [114]), (pf (shapeB i).data.toList ws k).2.2.2) := by
  have e := letter_at i k hk 99 h
  have e2 := word_at ws k hw
  simp only [pf]
  rw [e, e2, if_neg (by decide), if_neg (by decide), if_pos rfl]
theorem pf_n (i k : Nat) (ws : List ByteArray) (hk : k < (shapeB i).size) (hw : k + 1 < ws.length) (h : (((shapeB i)[k].toNat : Nat) : Int) = 110) :
    pf (shapeB i).data.toList ws (k + 1) = ((pf (shapeB i).data.toList ws k).1, (pf (shapeB i).data.toList ws k).2.1, (pf (shapeB i).data.toList ws k).2.2.1, piS (ws[k + 1]).data.toList) := by
  have e := letter_at i k hk 110 h
  have e2 := word_at ws k hw
  simp only [pf]
  rw [e, e2, if_neg (by decide), if_neg (by decide), if_neg (by decide)]
theorem pf_p (i k : Nat) (ws : List ByteArray) (hk : k < (shapeB i).size) (hw : k + 1 < ws.length) (h : (((shapeB i)[k].toNat : Nat) : Int) = 112) :
    pf (shapeB i).data.toList ws (k + 1) = ((pf (shapeB i).data.toList ws k).1, (pf (shapeB i).data.toList ws k).2.1, (pf (shapeB i).data.toList ws k).2.2.1, piS (ws[k + 1]).data.toList) := by
  have e := letter_at i k hk 112 h
  have e2 := word_at ws k hw
  simp only [pf]
  rw [e, e2, if_neg (by decide), if_neg (by decide), if_neg (by decide)]
theorem piS_in (l : List UInt8) : -2147483648 ≤ piS l ∧ piS l ≤ 2147483647 := by
  unfold piS
  split
  · rename_i v h
    have := Lib.parseIntB_bounds h
    omega
  · unfold Lib.intSat
    split <;> omega
  · omega
theorem wordsP_cut (s : ByteArray) : (wordsP s).map (·.data.toList) = cut32 s.data.toList := by
  unfold wordsP
  rw [Lib.splitB_data]
  exact split_cut _ _ (Nat.le_refl _)
theorem wordsP_len (s : ByteArray) : (wordsP s).length ≤ s.size + 1 := by
  have h := cut32_len s.data.toList
  rw [← wordsP_cut, List.length_map, Array.length_toList] at h
  exact h
theorem wordsP_mem (s : ByteArray) : ∀ x ∈ wordsP s, x.size ≤ s.size := by
  intro x hx
  have h := cut32_mem_len s.data.toList x.data.toList (by rw [← wordsP_cut]; exact List.mem_map_of_mem hx)
  rw [Array.length_toList, Array.length_toList] at h
  exact h
theorem wordsP_pos (s : ByteArray) : 0 < (wordsP s).length := by
  have h := cut32_len_pos s.data.toList
  rw [← wordsP_cut, List.length_map] at h
  exact h
theorem parseI_w (s : ByteArray) (u : Int) (hu : u = piS s.data.toList) (hs : s.size ≤ 2000000) (w : World) (E : Errs w) :
    Calls Tryd.prog 42 #[.string s, .int .i64 10, .int .i64 32] w fun e w' => (∃ er, e = .returned (.tuple #[.int .i64 u, er])) ∧ Below w.heap.size w w' := by
  rw [hu]
  exact parseI s hs w E
theorem trim_len (x : ByteArray) (p : List UInt8) (h : x.size ≤ 2000000) : (Lib.trimPrefix x.data.toList p).length ≤ 2000000 := by
  have h1 : x.data.toList.length ≤ 2000000 := by rw [Array.length_toList]; exact h
  unfold Lib.trimPrefix
  split
  · rw [List.length_drop]; omega
  · exact h1
theorem pf_in (L : List UInt8) (ws : List ByteArray) : ∀ k, (pf L ws k).1 < 256 ∧ (pf L ws k).2.1 < 256 ∧ (pf L ws k).2.2.1 < 256 ∧ -2147483648 ≤ (pf L ws k).2.2.2 ∧ (pf L ws k).2.2.2 ≤ 2147483647
  | 0 => by simp [pf]
  | k + 1 => by
    have ih := pf_in L ws k
    have hp := puS_le (Lib.trimPrefix (ws.getD (k + 1) ⟨#[]⟩).data.toList [114])
    have hi := piS_in (ws.getD (k + 1) ⟨#[]⟩).data.toList
    simp only [pf]
    split
    · exact ⟨by show puS _ < 256; omega, ih.2⟩
    · split
      · exact ⟨ih.1, by show puS _ < 256; omega, ih.2.2⟩
      · split
        · exact ⟨ih.1, ih.2.1, by show puS _ < 256; omega, ih.2.2.2⟩
        · exact ⟨ih.1, ih.2.1, ih.2.2.1, hi⟩
theorem xb_cell {w : World} {g : Nat} {cs : Array Value} {t : TypeId} (h : w.heap[g]? = some (.cells cs t (0, 0))) (j : Nat) (v : Value) (hv : cs[j]? = some v) : w.cell? ⟨g, j, none⟩ = some v := by simp [World.cell?, h, hv]
theorem xb_free {w : World} {g : Nat} {cs : Array Value} {t : TypeId} (h : w.heap[g]? = some (.cells cs t (0, 0))) (j : Nat) : w.frozen? ⟨g, j, none⟩ = false := by simp [World.frozen?, h]
theorem lettersL : ((List.range 28).all fun i => (opShapes.getD i []).all fun b => b.toNat == 97 || b.toNat == 98 || b.toNat == 99 || b.toNat == 110 || b.toNat == 112) = true := by kernel_rfl
theorem shape_letters (i k : Nat) (h2 : i ≤ 27) (hk : k < (shapeB i).size) : (((shapeB i)[k].toNat : Nat) : Int) = 97 ∨ (((shapeB i)[k].toNat : Nat) : Int) = 98 ∨ (((shapeB i)[k].toNat : Nat) : Int) = 99 ∨ (((shapeB i)[k].toNat : Nat) : Int) = 110 ∨ (((shapeB i)[k].toNat : Nat) : Int) = 112 := by
  have q := List.all_eq_true.1 (List.all_eq_true.1 lettersL i (List.mem_range.2 (by omega))) ((shapeB i)[k]) (by simp [shapeB, ByteArray.getElem_eq_getElem_data])
  simp at q
  omega
theorem same_of {a b : List UInt8} (h : (!a == b) = false) : a = b := by simpa using h
def xcells (i : Nat) (p : Nat × Nat × Nat × Int) : Array Value := #[.int .u8 i, .int .u8 p.1, .int .u8 p.2.1, .int .u8 p.2.2.1, .int .i32 p.2.2.2]
/-- what Read hands back behind the operands -/
def readV (s : ByteArray) (i : Nat) (p : Nat × Nat × Nat × Int) : Value := if (showS i p.1 p.2.1 p.2.2.1 p.2.2.2).toList = s.toList then .tuple #[ins i p.1 p.2.1 p.2.2.1 p.2.2.2, .int .i64 0] else .tuple #[ins 0 0 0 0 0, .int .i64 41]
set_option maxRecDepth 20000 in
set_option maxHeartbeats 400000 in
theorem read_yes (s : ByteArray) (ws : List ByteArray) (i : Nat) (w : World) (R : Rts w) (hs : s.size ≤ 2000000) (hws : ws = wordsP s) (hwl : ws.length ≤ 2000001) (hwz : ∀ x ∈ ws, x.size ≤ 2000000) (h1 : 1 ≤ i) (h2 : i ≤ 27) (hw0 : ws[0]? = some (nameB i)) :
    Calls Tryd.prog 28 #[.string s] w fun e w' => e = .returned (readV s i (pf (shapeB i).data.toList ws (min (shapeB i).size (ws.length - 1)))) ∧ Below w.heap.size w w' := by
  have HWS := Lib.hid hws
  have HWZ := Lib.hid hwz
  clear hwz
  have hl : 0 < ws.length := (List.getElem?_eq_some_iff.1 hw0).1
  have HW0 := Lib.hid hw0
  clear hws hw0
  have hi1 : (0 : Int) ≤ (i : Int) := by omega
  have hi3 : (i : Int) < ((28 : Nat) : Int) := by omega
  have hi2 : (i : Int) < 28 := by omega
  have hpos := R.t.pos
  have hB0 : Below w.heap.size w (w.alloc (.cells #[.int .u8 0, .int .u8 0, .int .u8 0, .int .u8 0, .int .i32 0] 26)) := (Below.refl _ _).alloc (Nat.le_refl _) _
  have hg0 : ws[0]'hl = nameB i := (List.getElem?_eq_some_iff.1 HW0.out).2
  go_enter Tryd.func28, Tryd.ntmps28
  go_wp2_with (first | (go_at_call 38; go_loud (refine (split_r s ws hs HWS.out w _ R hB0).mono ?_; rintro e w1 ⟨rfl, rfl⟩)) | (go_at_call 39; go_loud (refine (number_yes i _ (R.on (by go_grown)).b h1 h2).mono ?_; rintro e w2 ⟨rfl, hb2⟩; (have hB2 : Below w.heap.size w w2 := by (refine Below.trans ?_ (hb2.mono ?_); (all_goals first | go_grown | (simp; omega)))); (have hsn := ((R.on hB2).t.tab i (by omega)).2); (have hz2 := hb2.size); (simp at hz2); (have hz3 : w.heap.size < w2.heap.size := (by omega)); (have hz4 : 0 < w2.heap.size := (by omega)); (have hz5 : w.heap.size + 1 < w2.heap.size := (by omega)); (clear hz2))))
  go_loopw [42] (fun j wr => ∃ k : Nat, k ≤ min (shapeB i).size (ws.length - 1) ∧ j = .int .i64 k ∧ Below w2.heap.size w2 wr ∧ wr.heap[w2.heap.size]? = some (.cells (xcells i (pf (shapeB i).data.toList ws k)) 26 (0, 0))) (fun j _ => min (shapeB i).size (ws.length - 1) - (intOf j).toNat)
  case atStart => exact ⟨0, Nat.zero_le _, rfl, by go_grown, heap_alloc_new w2 _⟩
  case round =>
    obtain ⟨k, hk, rfl, hB, hX⟩ := hrel
    by_cases hlt : k < min (shapeB i).size (ws.length - 1)
    · have hk1 : k < (shapeB i).size := by omega
      have hk2 : k + 1 < ws.length := by omega
      have hk3 : k < 2000000 := by omega
      have hx1 := xb_cell hX 1 _ rfl
      have hf1 := xb_free hX 1
      have hx2 := xb_cell hX 2 _ rfl
      have hf2 := xb_free hX 2
      have hx3 := xb_cell hX 3 _ rfl
      have hf3 := xb_free hX 3
      have hx4 := xb_cell hX 4 _ rfl
      have hf4 := xb_free hX 4
      have hgr : w2.heap.size < wr.heap.size := (Array.getElem?_eq_some_iff.1 hX).1
      have hwd : wr.cell? ⟨w.heap.size + 1, k + 1, none⟩ = some (.string ws[k + 1]) := by
        have e0 := word_cell (w.alloc (.cells #[.int .u8 0, .int .u8 0, .int .u8 0, .int .u8 0, .int .i32 0] 26)) ws (k + 1) _ (List.getElem?_eq_getElem hk2)
        have e1 : (w.alloc (.cells #[.int .u8 0, .int .u8 0, .int .u8 0, .int .u8 0, .int .i32 0] 26)).heap.size = w.heap.size + 1 := by simp
        rw [e1] at e0
        exact (hB.cell (p := ⟨w.heap.size + 1, k + 1, none⟩) hz5).trans ((hb2.cell (p := ⟨w.heap.size + 1, k + 1, none⟩) (by simp)).trans e0)
      have hBw : Below w.heap.size w wr := hB2.trans (hB.mono (by omega))
      have HX := Lib.hid hX
      have HK := Lib.hid hlt
      clear hX hlt
      rcases shape_letters i k h2 hk1 with h | h | h | h | h
      · obtain ⟨u, hu⟩ : ∃ u, u = puS (Lib.trimPrefix (ws[k + 1]).data.toList [114]) := ⟨_, rfl⟩
        have hu1 : u ≤ 255 := by rw [hu]; exact puS_le _
        have HU := Lib.hid hu
        clear hu
        have hw2 : (ws[k + 1]).size ≤ 2000000 := HWZ.out _ (List.getElem_mem hk2)
        go_wp2_with (first | (go_at_call 32; go_loud (refine (field_a _ _).mono ?_; rintro e w3 ⟨rfl, rfl⟩)) | (go_at_call 41; go_loud (refine (Tryd.strings_TrimPrefix (ws[k + 1]) ⟨#[114]⟩ _).mono ?_; rintro e w3 ⟨rfl, rfl⟩)) | (go_at_call 40; go_loud (refine (parseU_w (Lib.trimPrefix (ws[k + 1]).data.toList [114]) u HU.out (trim_len _ _ hw2) _ (R.on hBw).e).mono ?_; rintro e w5 ⟨⟨er, rfl⟩, hb5⟩; (have hx1 := ((bcell hb5).1 w2.heap.size 1 hgr).trans hx1); (have hf1 := ((bcell hb5).2 w2.heap.size 1 hgr).trans hf1); (have hX5 := (hb5.block w2.heap.size hgr).trans HX.out); (have HX5 := Lib.hid hX5); (clear hX5))))
        go_roundw
        case rel => exact ⟨k + 1, by have := HK.out; omega, by go_num, (hB.trans (hb5.mono (by omega))).setCell (Nat.le_refl _) _, by rw [heap_setCell_same _ _ _ _ _ _ HX5.out, pf_a i k ws hk1 hk2 h, ← HU.out]; rfl⟩
        case measure => simp [intOf]; omega
      · obtain ⟨u, hu⟩ : ∃ u, u = puS (Lib.trimPrefix (ws[k + 1]).data.toList [114]) := ⟨_, rfl⟩
        have hu1 : u ≤ 255 := by rw [hu]; exact puS_le _
        have HU := Lib.hid hu
        clear hu
        have hw2 : (ws[k + 1]).size ≤ 2000000 := HWZ.out _ (List.getElem_mem hk2)
        go_wp2_with (first | (go_at_call 32; go_loud (refine (field_b _ _).mono ?_; rintro e w3 ⟨rfl, rfl⟩)) | (go_at_call 41; go_loud (refine (Tryd.strings_TrimPrefix (ws[k + 1]) ⟨#[114]⟩ _).mono ?_; rintro e w3 ⟨rfl, rfl⟩)) | (go_at_call 40; go_loud (refine (parseU_w (Lib.trimPrefix (ws[k + 1]).data.toList [114]) u HU.out (trim_len _ _ hw2) _ (R.on hBw).e).mono ?_; rintro e w5 ⟨⟨er, rfl⟩, hb5⟩; (have hx2 := ((bcell hb5).1 w2.heap.size 2 hgr).trans hx2); (have hf2 := ((bcell hb5).2 w2.heap.size 2 hgr).trans hf2); (have hX5 := (hb5.block w2.heap.size hgr).trans HX.out); (have HX5 := Lib.hid hX5); (clear hX5))))
        go_roundw
        case rel => exact ⟨k + 1, by have := HK.out; omega, by go_num, (hB.trans (hb5.mono (by omega))).setCell (Nat.le_refl _) _, by rw [heap_setCell_same _ _ _ _ _ _ HX5.out, pf_b i k ws hk1 hk2 h, ← HU.out]; rfl⟩
        case measure => simp [intOf]; omega
      · obtain ⟨u, hu⟩ : ∃ u, u = puS (Lib.trimPrefix (ws[k + 1]).data.toList [114]) := ⟨_, rfl⟩
        have hu1 : u ≤ 255 := by rw [hu]; exact puS_le _
        have HU := Lib.hid hu
        clear hu
        have hw2 : (ws[k + 1]).size ≤ 2000000 := HWZ.out _ (List.getElem_mem hk2)
        go_wp2_with (first | (go_at_call 32; go_loud (refine (field_c _ _).mono ?_; rintro e w3 ⟨rfl, rfl⟩)) | (go_at_call 41; go_loud (refine (Tryd.strings_TrimPrefix (ws[k + 1]) ⟨#[114]⟩ _).mono ?_; rintro e w3 ⟨rfl, rfl⟩)) | (go_at_call 40; go_loud (refine (parseU_w (Lib.trimPrefix (ws[k + 1]).data.toList [114]) u HU.out (trim_len _ _ hw2) _ (R.on hBw).e).mono ?_; rintro e w5 ⟨⟨er, rfl⟩, hb5⟩; (have hx3 := ((bcell hb5).1 w2.heap.size 3 hgr).trans hx3); (have hf3 := ((bcell hb5).2 w2.heap.size 3 hgr).trans hf3); (have hX5 := (hb5.block w2.heap.size hgr).trans HX.out); (have HX5 := Lib.hid hX5); (clear hX5))))
        go_roundw
        case rel => exact ⟨k + 1, by have := HK.out; omega, by go_num, (hB.trans (hb5.mono (by omega))).setCell (Nat.le_refl _) _, by rw [heap_setCell_same _ _ _ _ _ _ HX5.out, pf_c i k ws hk1 hk2 h, ← HU.out]; rfl⟩
        case measure => simp [intOf]; omega
      · obtain ⟨u, hu⟩ : ∃ u, u = piS (ws[k + 1]).data.toList := ⟨_, rfl⟩
        have hu1 : -2147483648 ≤ u ∧ u ≤ 2147483647 := by rw [hu]; exact piS_in _
        obtain ⟨hu2, hu3⟩ := hu1
        have HU := Lib.hid hu
        clear hu
        have hw2 : (ws[k + 1]).size ≤ 2000000 := HWZ.out _ (List.getElem_mem hk2)
        go_wp2_with (first | (go_at_call 32; go_loud (refine (field_n _ _).mono ?_; rintro e w3 ⟨rfl, rfl⟩)) | (go_at_call 41; go_loud (refine (Tryd.strings_TrimPrefix (ws[k + 1]) ⟨#[114]⟩ _).mono ?_; rintro e w3 ⟨rfl, rfl⟩)) | (go_at_call 42; go_loud (refine (parseI_w (ws[k + 1]) u HU.out hw2 _ (R.on hBw).e).mono ?_; rintro e w5 ⟨⟨er, rfl⟩, hb5⟩; (have hx4 := ((bcell hb5).1 w2.heap.size 4 hgr).trans hx4); (have hf4 := ((bcell hb5).2 w2.heap.size 4 hgr).trans hf4); (have hX5 := (hb5.block w2.heap.size hgr).trans HX.out); (have HX5 := Lib.hid hX5); (clear hX5))))
        go_roundw
        case rel => exact ⟨k + 1, by have := HK.out; omega, by go_num, (hB.trans (hb5.mono (by omega))).setCell (Nat.le_refl _) _, by rw [heap_setCell_same _ _ _ _ _ _ HX5.out, pf_n i k ws hk1 hk2 h, ← HU.out]; rfl⟩
        case measure => simp [intOf]; omega
      · obtain ⟨u, hu⟩ : ∃ u, u = piS (ws[k + 1]).data.toList := ⟨_, rfl⟩
        have hu1 : -2147483648 ≤ u ∧ u ≤ 2147483647 := by rw [hu]; exact piS_in _
        obtain ⟨hu2, hu3⟩ := hu1
        have HU := Lib.hid hu
        clear hu
        have hw2 : (ws[k + 1]).size ≤ 2000000 := HWZ.out _ (List.getElem_mem hk2)
        go_wp2_with (first | (go_at_call 32; go_loud (refine (field_p _ _).mono ?_; rintro e w3 ⟨rfl, rfl⟩)) | (go_at_call 41; go_loud (refine (Tryd.strings_TrimPrefix (ws[k + 1]) ⟨#[114]⟩ _).mono ?_; rintro e w3 ⟨rfl, rfl⟩)) | (go_at_call 42; go_loud (refine (parseI_w (ws[k + 1]) u HU.out hw2 _ (R.on hBw).e).mono ?_; rintro e w5 ⟨⟨er, rfl⟩, hb5⟩; (have hx4 := ((bcell hb5).1 w2.heap.size 4 hgr).trans hx4); (have hf4 := ((bcell hb5).2 w2.heap.size 4 hgr).trans hf4); (have hX5 := (hb5.block w2.heap.size hgr).trans HX.out); (have HX5 := Lib.hid hX5); (clear hX5))))
        go_roundw
        case rel => exact ⟨k + 1, by have := HK.out; omega, by go_num, (hB.trans (hb5.mono (by omega))).setCell (Nat.le_refl _) _, by rw [heap_setCell_same _ _ _ _ _ _ HX5.out, pf_p i k ws hk1 hk2 h, ← HU.out]; rfl⟩
        case measure => simp [intOf]; omega
    · have hk' : k = min (shapeB i).size (ws.length - 1) := by omega
      have hbb : ¬ (k : Int) < min ((shapeB i).size : Int) ((ws.length : Int) - 1) := by omega
      have HK := Lib.hid hk'
      clear hk'
      have hx0 : wr.cell? ⟨w2.heap.size, 0, none⟩ = some (.int .u8 i) := xb_cell hX 0 _ rfl
      have hx1 : wr.cell? ⟨w2.heap.size, 1, none⟩ = some (.int .u8 (pf (shapeB i).data.toList ws k).1) := xb_cell hX 1 _ rfl
      have hx2 : wr.cell? ⟨w2.heap.size, 2, none⟩ = some (.int .u8 (pf (shapeB i).data.toList ws k).2.1) := xb_cell hX 2 _ rfl
      have hx3 : wr.cell? ⟨w2.heap.size, 3, none⟩ = some (.int .u8 (pf (shapeB i).data.toList ws k).2.2.1) := xb_cell hX 3 _ rfl
      have hx4 : wr.cell? ⟨w2.heap.size, 4, none⟩ = some (.int .i32 (pf (shapeB i).data.toList ws k).2.2.2) := xb_cell hX 4 _ rfl
      have HX := Lib.hid hX
      clear hX
      obtain ⟨p, hp⟩ : ∃ p, p = pf (shapeB i).data.toList ws k := ⟨_, rfl⟩
      rw [← hp] at hx1 hx2 hx3 hx4
      obtain ⟨pa, pb, pc, pn⟩ := p
      simp only at hx1 hx2 hx3 hx4
      have hpi := pf_in (shapeB i).data.toList ws k
      rw [← hp] at hpi
      obtain ⟨pi1, pi2, pi3, pi4, pi5⟩ := hpi
      simp only at pi1 pi2 pi3 pi4 pi5
      have hBw : Below w.heap.size w wr := hB2.trans (hB.mono (by omega))
      have HP := Lib.hid hp
      clear hp
      have hgr : w2.heap.size < wr.heap.size := (Array.getElem?_eq_some_iff.1 HX.out).1
      have hR0 : ((w.alloc (.cells #[.int .u8 0, .int .u8 0, .int .u8 0, .int .u8 0, .int .i32 0] 26)).alloc (.cells (ws.map Value.string).toArray 9)).heap[w.heap.size]? = some (.cells #[.int .u8 0, .int .u8 0, .int .u8 0, .int .u8 0, .int .i32 0] 26 (0, 0)) := (((Below.refl _ _).alloc (Nat.le_refl _) _).block w.heap.size (by simp)).trans (heap_alloc_new w _)
      go_wp2_with (go_at_call 21; go_loud (refine (show_any i pa pb pc pn _ (R.on hBw).t (by omega) (by omega) (by omega) (by omega) (by omega) (by omega) (by omega)).mono ?_; rintro e w6 ⟨rfl, hb6⟩; (have hR6 := (hb6.block w.heap.size (by have := hB.size; omega)).trans ((hB.block w.heap.size hz3).trans ((hb2.block w.heap.size (by simp; omega)).trans hR0))); (have r0 := xb_cell hR6 0 _ rfl); (have r1 := xb_cell hR6 1 _ rfl); (have r2 := xb_cell hR6 2 _ rfl); (have r3 := xb_cell hR6 3 _ rfl); (have r4 := xb_cell hR6 4 _ rfl); (have f0 := xb_free hR6 0); (have f1 := xb_free hR6 1); (have f2 := xb_free hR6 2); (have f3 := xb_free hR6 3); (have f4 := xb_free hR6 4); (have HR6 := Lib.hid hR6); (clear hR6); (have hx0 := ((bcell hb6).1 w2.heap.size 0 hgr).trans hx0); (have hx1 := ((bcell hb6).1 w2.heap.size 1 hgr).trans hx1); (have hx2 := ((bcell hb6).1 w2.heap.size 2 hgr).trans hx2); (have hx3 := ((bcell hb6).1 w2.heap.size 3 hgr).trans hx3); (have hx4 := ((bcell hb6).1 w2.heap.size 4 hgr).trans hx4)))
      all_goals have hBf : Below w.heap.size w w6 := hBw.trans (hb6.mono hBw.size)
      · have hF := heap_setCell_same w6 w.heap.size 0 _ 26 (.int .u8 0) HR6.out
        have hF := heap_setCell_same _ w.heap.size 1 _ 26 (.int .u8 0) hF
        have hF := heap_setCell_same _ w.heap.size 2 _ 26 (.int .u8 0) hF
        have hF := heap_setCell_same _ w.heap.size 3 _ 26 (.int .u8 0) hF
        have hF := heap_setCell_same _ w.heap.size 4 _ 26 (.int .i32 0) hF
        refine bodyPost_ret (v := .tuple #[ins 0 0 0 0 0, .int .i64 41]) (by simp [results, Tryd.results28, asAddr, run_loadVar_row _ w.heap.size 26 26 _ _ _ hF Tryd.underlying26 rfl (by kernel_rfl)]) rfl ⟨?_, by go_grown⟩
        unfold readV
        rw [← HK.out, ← HP.out]
        split
        · rename_i hne _ heq
          exact absurd heq (by simp_all)
        · rfl
      · have hF := heap_setCell_same w6 w.heap.size 0 _ 26 (.int .u8 i) HR6.out
        have hF := heap_setCell_same _ w.heap.size 1 _ 26 (.int .u8 pa) hF
        have hF := heap_setCell_same _ w.heap.size 2 _ 26 (.int .u8 pb) hF
        have hF := heap_setCell_same _ w.heap.size 3 _ 26 (.int .u8 pc) hF
        have hF := heap_setCell_same _ w.heap.size 4 _ 26 (.int .i32 pn) hF
        refine bodyPost_ret (v := .tuple #[ins i pa pb pc pn, .int .i64 0]) (by simp [results, Tryd.results28, asAddr, run_loadVar_row _ w.heap.size 26 26 _ _ _ hF Tryd.underlying26 rfl (by kernel_rfl)]) rfl ⟨?_, by go_grown⟩
        unfold readV
        rw [← HK.out, ← HP.out]
        split
        · rfl
        · rename_i heq
          refine absurd ?_ heq
          refine same_of ?_
          with_reducible assumption
set_option maxRecDepth 20000 in
set_option maxHeartbeats 400000 in
theorem read_no (s : ByteArray) (ws : List ByteArray) (x0 : ByteArray) (w : World) (R : Rts w) (hs : s.size ≤ 2000000) (hws : ws = wordsP s) (hw0 : ws[0]? = some x0) (hx0 : x0.size ≤ 2000000) (hno : ∀ i : Nat, 1 ≤ i → i ≤ 27 → ¬ (nameB i).toList = x0.toList) :
    Calls Tryd.prog 28 #[.string s] w fun e w' => e = .returned (.tuple #[ins 0 0 0 0 0, .int .i64 30]) ∧ Below w.heap.size w w' := by
  have HWS := Lib.hid hws
  have hl : 0 < ws.length := (List.getElem?_eq_some_iff.1 hw0).1
  have HW0 := Lib.hid hw0
  have HNO := Lib.hid hno
  clear hws hw0 hno
  have hpos := R.t.pos
  have hB0 : Below w.heap.size w (w.alloc (.cells #[.int .u8 0, .int .u8 0, .int .u8 0, .int .u8 0, .int .i32 0] 26)) := (Below.refl _ _).alloc (Nat.le_refl _) _
  have hg0 : ws[0]'hl = x0 := (List.getElem?_eq_some_iff.1 HW0.out).2
  have hR0 : ((w.alloc (.cells #[.int .u8 0, .int .u8 0, .int .u8 0, .int .u8 0, .int .i32 0] 26)).alloc (.cells (ws.map Value.string).toArray 9)).heap[w.heap.size]? = some (.cells #[.int .u8 0, .int .u8 0, .int .u8 0, .int .u8 0, .int .i32 0] 26 (0, 0)) := (((Below.refl _ _).alloc (Nat.le_refl _) _).block w.heap.size (by simp)).trans (heap_alloc_new w _)
  have HR0 := Lib.hid hR0
  clear hR0
  go_enter Tryd.func28, Tryd.ntmps28
  go_wp2_with (first | (go_at_call 38; go_loud (refine (split_r s ws hs HWS.out w _ R hB0).mono ?_; rintro e w1 ⟨rfl, rfl⟩)) | (go_at_call 39; go_loud (refine (number_no x0 _ (R.on (by go_grown)).b (by omega) HNO.out).mono ?_; rintro e w2 ⟨rfl, hb2⟩; (have hB2 : Below w.heap.size w w2 := by (refine Below.trans ?_ (hb2.mono ?_); (all_goals first | go_grown | (simp; omega)))); (have hz2 := hb2.size); (simp at hz2); (have hz3 : w.heap.size < w2.heap.size := (by omega)); (have hR6 := (hb2.block w.heap.size (by simp; omega)).trans HR0.out); (have r0 := xb_cell hR6 0 _ rfl); (have r1 := xb_cell hR6 1 _ rfl); (have r2 := xb_cell hR6 2 _ rfl); (have r3 := xb_cell hR6 3 _ rfl); (have r4 := xb_cell hR6 4 _ rfl); (have f0 := xb_free hR6 0); (have f1 := xb_free hR6 1); (have f2 := xb_free hR6 2); (have f3 := xb_free hR6 3); (have f4 := xb_free hR6 4); (have HR6 := Lib.hid hR6); (clear hR6 hz2))))
  have hF := heap_setCell_same w2 w.heap.size 0 _ 26 (.int .u8 0) HR6.out
  have hF := heap_setCell_same _ w.heap.size 1 _ 26 (.int .u8 0) hF
  have hF := heap_setCell_same _ w.heap.size 2 _ 26 (.int .u8 0) hF
  have hF := heap_setCell_same _ w.heap.size 3 _ 26 (.int .u8 0) hF
  have hF := heap_setCell_same _ w.heap.size 4 _ 26 (.int .i32 0) hF
  exact bodyPost_ret (v := .tuple #[ins 0 0 0 0 0, .int .i64 30]) (by simp [results, Tryd.results28, asAddr, run_loadVar_row _ w.heap.size 26 26 _ _ _ hF Tryd.underlying26 rfl (by kernel_rfl)]) rfl ⟨rfl, by go_grown⟩
end Go.Proofs.YtcbhkeinmdobhaaDoor
