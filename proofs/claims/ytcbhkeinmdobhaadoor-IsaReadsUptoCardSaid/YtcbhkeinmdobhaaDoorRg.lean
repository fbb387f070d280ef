import Derived.Test.YtcbhkeinmdobhaaDoorRd
namespace Go.Proofs.YtcbhkeinmdobhaaDoor
open Go.ChangeShapes Go.WideShapes Go.ChangeAt Go.RowKit
set_option linter.unusedVariables false
set_option linter.unusedSimpArgs false

/-- the line's first word is this operation's name -/
def NameAt (l : List UInt8) (i : Nat) : Prop := 1 ≤ i ∧ i ≤ 27 ∧ (nameB i).data.toList = (cut32 l).headD []
/-- an instruction as a reader has it, in its ranges -/
structure Ranged (i a b c : Nat) (n : Int) : Prop where
  i1 : 1 ≤ i
  i2 : i ≤ 27
  a : a < 256
  b : b < 256
  c : c < 256
  n0 : -2147483648 ≤ n
  n1 : n ≤ 2147483647
theorem name_inj {i j : Nat} (h1 : i ≤ 27) (h2 : j ≤ 27) (h : (nameB i).data.toList = (nameB j).data.toList) : i = j := by
  rcases Nat.decEq i j with hne | he
  · have := names_apart i j h1 h2 hne
    rw [beq_eq_false_iff_ne] at this
    exact absurd (congrArg ByteArray.toList (ByteArray.ext (Array.toList_inj.1 h))) this
  · exact he
theorem bytes_of_toList {a b : ByteArray} (h : a.toList = b.toList) : a = b := by
  rw [ByteArray.toList_eq, ByteArray.toList_eq] at h
  exact ByteArray.ext (Array.toList_inj.1 h)
abbrev ruP (l : List UInt8) : Nat := puS (Lib.trimPrefix l [114])
theorem good_ru : ∀ r : Nat, r < 16 → ruP (114 :: Lib.decDigits r) = r := fun r h => by
  show puS _ = r
  rw [trim_reg]; unfold puS; rw [parseB_dec 8 r (by decide) (by omega)]
theorem good_rn : ∀ n : Int, -2147483648 ≤ n → n ≤ 2147483647 → piS (Lib.itoa n) = n := fun n h0 h1 => by unfold piS; rw [parseI_itoa n h0 h1]
theorem nameB_eq {i j : Nat} (h : (nameB i).data.toList = (nameB j).data.toList) : nameB i = nameB j := ByteArray.ext (Array.toList_inj.1 h)
theorem name_pos (i : Nat) (h1 : 1 ≤ i) (h2 : i ≤ 27) : (nameB i).data.toList ≠ [] := by
  have q : ((List.range 28).all fun i => i == 0 || !((opNames.getD i []) == [])) = true := by kernel_rfl
  have q := List.all_eq_true.1 q i (List.mem_range.2 (by omega))
  have hij : (i == 0) = false := by simp; omega
  rw [hij, Bool.false_or] at q
  intro h
  have e : opNames.getD i [] = [] := by simpa [nameB] using h
  rw [e] at q
  simp at q
theorem legal_of_show {i a b c : Nat} {n : Int} {l : List UInt8} {j : Nat} (hj : NameAt l j) (h : (showS i a b c n).data.toList = l) : legalB i a b c n = true := by
  rcases hl : legalB i a b c n with _ | _
  · have e : showS i a b c n = ⟨#[]⟩ := by unfold showS; rw [hl]; rfl
    rw [e] at h
    have : l = [] := h.symm
    subst this
    exact absurd (hj.2.2.trans (by simp [cut32])) (name_pos j hj.1 hj.2.1)
  · rfl
theorem nameAt_show {i : Nat} {a b c n : Int} (hl : legalB i a b c n = true) (h1 : 1 ≤ i) (h2 : i ≤ 27) : NameAt (showS i a b c n).data.toList i :=
  ⟨h1, h2, by rw [show_cut i a b c n hl h2]; rfl⟩
theorem nameAt_inj {l : List UInt8} {i j : Nat} (hi : NameAt l i) (hj : NameAt l j) : i = j := name_inj hi.2.1 hj.2.1 (hi.2.2.trans hj.2.2.symm)
/-- what a good reader reads of a line: its one instruction, if there is one -/
theorem read_spec (ru : List UInt8 → Nat) (rn : List UInt8 → Int) (hru : ∀ r : Nat, r < 16 → ru (114 :: Lib.decDigits r) = r) (hrn : ∀ n : Int, -2147483648 ≤ n → n ≤ 2147483647 → rn (Lib.itoa n) = n)
    {i a b c : Nat} {n : Int} (hr : Ranged i a b c n) (hl : legalB i a b c n = true) {l : List UInt8} (h : (showS i a b c n).data.toList = l) {j : Nat} (hj : NameAt l j) :
    j = i ∧ pfG ru rn (shapeB j).data.toList (cut32 l) (min (shapeB j).size ((cut32 l).length - 1)) = (a, b, c, n) := by
  have hi := nameAt_show hl hr.i1 hr.i2
  rw [h] at hi
  obtain rfl := nameAt_inj hj hi
  refine ⟨rfl, ?_⟩
  have := show_back ru rn j a b c n hru (hrn n hr.n0 hr.n1) hl hr.i2 (by omega) (by omega) (by omega)
  rw [h] at this
  simpa using this
theorem show_inj {i a b c i' a' b' c' : Nat} {n n' : Int} (hr : Ranged i a b c n) (hl : legalB i a b c n = true) (hr' : Ranged i' a' b' c' n') (hl' : legalB i' a' b' c' n' = true)
    (h : (showS i a b c n).data.toList = (showS i' a' b' c' n').data.toList) : i = i' ∧ a = a' ∧ b = b' ∧ c = c' ∧ n = n' := by
  obtain ⟨e1, e2⟩ := read_spec ruP piS good_ru good_rn hr hl h (nameAt_show hl' hr'.i1 hr'.i2)
  obtain ⟨e3, e4⟩ := read_spec ruP piS good_ru good_rn hr' hl' rfl (nameAt_show hl' hr'.i1 hr'.i2)
  rw [e4] at e2
  simp only [Prod.mk.injEq] at e2
  exact ⟨e1.symm, e2.1.symm, e2.2.1.symm, e2.2.2.1.symm, e2.2.2.2.symm⟩
theorem pf_G (L : List UInt8) (ws : List ByteArray) : ∀ k, pf L ws k = pfG ruP piS L (ws.map (·.data.toList)) k
  | 0 => rfl
  | k + 1 => by
    have ih := pf_G L ws k
    have e : (ws.map (·.data.toList)).getD (k + 1) [] = (ws.getD (k + 1) ⟨#[]⟩).data.toList := by
      rw [List.getD_eq_getElem?_getD, List.getD_eq_getElem?_getD, List.getElem?_map]
      cases ws[k + 1]? <;> rfl
    simp only [pf, pfG]
    rw [ih, e]
/-- THE PROGRAM's READING OF A LINE: its one instruction; else an error, by whether the first word is a name -/
theorem read_any (s : ByteArray) (w : World) (R : Rts w) (hs : s.size ≤ 2000000) :
    (∃ i a b c n, Ranged i a b c n ∧ legalB i a b c n = true ∧ (showS i a b c n).data.toList = s.data.toList ∧ Calls Tryd.prog 28 #[.string s] w fun e w' => e = .returned (.tuple #[ins i a b c n, .int .i64 0]) ∧ Below w.heap.size w w') ∨
    ((∀ i a b c n, Ranged i a b c n → legalB i a b c n = true → (showS i a b c n).data.toList ≠ s.data.toList) ∧
      (((∃ j, NameAt s.data.toList j) ∧ Calls Tryd.prog 28 #[.string s] w fun e w' => e = .returned (.tuple #[ins 0 0 0 0 0, .int .i64 41]) ∧ Below w.heap.size w w') ∨
       ((¬ ∃ j, NameAt s.data.toList j) ∧ Calls Tryd.prog 28 #[.string s] w fun e w' => e = .returned (.tuple #[ins 0 0 0 0 0, .int .i64 30]) ∧ Below w.heap.size w w'))) := by
  have hpos := wordsP_pos s
  obtain ⟨x0, hx0⟩ : ∃ x0, (wordsP s)[0]? = some x0 := ⟨_, List.getElem?_eq_getElem hpos⟩
  have hmem := wordsP_mem s
  have hhead : (cut32 s.data.toList).headD [] = x0.data.toList := by
    rw [← wordsP_cut]
    rcases hw : wordsP s with _ | ⟨y, r⟩
    · rw [hw] at hpos; cases hpos
    · rw [hw] at hx0
      injection hx0 with hx0
      subst hx0
      rfl
  have hx1 : x0 ∈ wordsP s := List.mem_of_getElem? hx0
  have hlen := wordsP_len s
  by_cases hn : ∃ j, NameAt s.data.toList j
  · obtain ⟨j, hj⟩ := hn
    have hj' := hj
    obtain ⟨h1, h2, h3⟩ := hj
    have hxj : x0 = nameB j := ByteArray.ext (Array.toList_inj.1 (hhead.symm.trans h3.symm))
    have hy := read_yes s (wordsP s) j w R hs rfl (by omega) (fun x hx => by have := hmem x hx; omega) h1 h2 (by rw [hx0, hxj])
    have hin := pf_in (shapeB j).data.toList (wordsP s) (min (shapeB j).size ((wordsP s).length - 1))
    have hG := pf_G (shapeB j).data.toList (wordsP s) (min (shapeB j).size ((wordsP s).length - 1))
    rw [wordsP_cut] at hG
    have hl2 : (wordsP s).length = (cut32 s.data.toList).length := by rw [← wordsP_cut, List.length_map]
    rcases hp : pf (shapeB j).data.toList (wordsP s) (min (shapeB j).size ((wordsP s).length - 1)) with ⟨a, b, c, n⟩
    rw [hp] at hin hy
    obtain ⟨g1, g2, g3, g4, g5⟩ := hin
    have hr : Ranged j a b c n := ⟨h1, h2, g1, g2, g3, g4, g5⟩
    by_cases hsh : (showS j a b c n).toList = s.toList
    · have he : showS j a b c n = s := bytes_of_toList hsh
      have he' : (showS j a b c n).data.toList = s.data.toList := by rw [he]
      refine .inl ⟨j, a, b, c, n, hr, legal_of_show hj' he', he', hy.mono fun e w' h => ⟨?_, h.2⟩⟩
      rw [h.1]
      unfold readV
      rw [if_pos hsh]
    · refine .inr ⟨?_, .inl ⟨⟨j, hj'⟩, hy.mono fun e w' h => ⟨?_, h.2⟩⟩⟩
      · intro i' a' b' c' n' hr' hl' he
        obtain ⟨rfl, e2⟩ := read_spec ruP piS good_ru good_rn hr' hl' he hj'
        rw [← hl2, ← hG, hp] at e2
        simp only [Prod.mk.injEq] at e2
        obtain ⟨rfl, rfl, rfl, rfl⟩ := e2
        apply hsh
        have : showS j a b c n = s := ByteArray.ext (Array.toList_inj.1 he)
        rw [this]
      · rw [h.1]
        unfold readV
        rw [if_neg hsh]
  · refine .inr ⟨?_, .inr ⟨hn, ?_⟩⟩
    · intro i' a' b' c' n' hr' hl' he
      apply hn
      have := nameAt_show hl' hr'.i1 hr'.i2
      rw [he] at this
      exact ⟨i', this⟩
    · refine read_no s (wordsP s) x0 w R hs rfl hx0 (by have := hmem x0 hx1; omega) ?_
      intro i h1 h2 he
      apply hn
      refine ⟨i, h1, h2, ?_⟩
      rw [hhead]
      have : nameB i = x0 := bytes_of_toList he
      rw [this]
end Go.Proofs.YtcbhkeinmdobhaaDoor
