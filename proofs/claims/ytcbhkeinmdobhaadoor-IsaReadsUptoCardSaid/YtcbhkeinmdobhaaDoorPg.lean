import Derived.Test.YtcbhkeinmdobhaaDoorMd
import Derived.Test.YtcbhkeinmdobhaaDoorSw
namespace Go.Proofs.YtcbhkeinmdobhaaDoor
set_option linter.unusedVariables false
set_option linter.unusedSimpArgs false

/-- the fields behind k operands, by a reader of registers and one of numbers -/
def pfG (ru : List UInt8 → Nat) (rn : List UInt8 → Int) (L : List UInt8) (ws : List (List UInt8)) : Nat → Nat × Nat × Nat × Int
  | 0 => (0, 0, 0, 0)
  | k + 1 =>
    let p := pfG ru rn L ws k
    let word := ws.getD (k + 1) []
    if L.getD k 0 = 97 then (ru word, p.2.1, p.2.2.1, p.2.2.2)
    else if L.getD k 0 = 98 then (p.1, ru word, p.2.2.1, p.2.2.2)
    else if L.getD k 0 = 99 then (p.1, p.2.1, ru word, p.2.2.2)
    else (p.1, p.2.1, p.2.2.1, rn word)
def opndL (a b c n : Int) (ch : UInt8) : List UInt8 := (opndB a b c n ch).data.toList
theorem opndL_eq (a b c n : Int) (ch : UInt8) : opndL a b c n ch = if ch = 97 then 114 :: Lib.decDigits a.toNat else if ch = 98 then 114 :: Lib.decDigits b.toNat else if ch = 99 then 114 :: Lib.decDigits c.toNat else Lib.itoa n := by
  unfold opndL opndB
  split
  · simp [dig, ByteArray.data_append]
  · split
    · simp [dig, ByteArray.data_append]
    · split
      · simp [dig, ByteArray.data_append]
      · simp [dec]
def isN (c : UInt8) : Bool := decide (c ≠ 97 ∧ c ≠ 98 ∧ c ≠ 99)
theorem hasB_iff (l : List UInt8) (m : Nat) (x : UInt8) (hx : x.toNat = m) : hasB l m = true ↔ x ∈ l := by
  unfold hasB
  rw [List.any_eq_true]
  constructor
  · rintro ⟨y, hy, h⟩
    have : y.toNat = x.toNat := by rw [hx]; have := of_decide_eq_true h; omega
    rw [← UInt8.toNat_inj.1 this]; exact hy
  · intro h
    exact ⟨x, h, by rw [hx]; simp⟩
/-- a field is its value if its letter has come, else 0 -/
def come (b : Bool) (v : Nat) : Nat := if b then v else 0
def comeI (b : Bool) (v : Int) : Int := if b then v else 0
theorem pfG_go (ru : List UInt8 → Nat) (rn : List UInt8 → Int) (L : List UInt8) (a b c n : Int) (nm : List UInt8)
    (hru : ∀ r : Nat, r < 16 → ru (114 :: Lib.decDigits r) = r) (hrn : rn (Lib.itoa n) = n) (ha : a.toNat < 16) (hb : b.toNat < 16) (hc : c.toNat < 16) :
    ∀ k, k ≤ L.length → pfG ru rn L (nm :: L.map (opndL a b c n)) k = (come (decide ((97 : UInt8) ∈ L.take k)) a.toNat, come (decide ((98 : UInt8) ∈ L.take k)) b.toNat, come (decide ((99 : UInt8) ∈ L.take k)) c.toNat, comeI ((L.take k).any isN) n)
  | 0, _ => by simp [pfG, come, comeI]
  | k + 1, hk => by
    have ih := pfG_go ru rn L a b c n nm hru hrn ha hb hc k (by omega)
    have hlt : k < L.length := by omega
    have hL : L.getD k 0 = L[k] := by rw [List.getD_eq_getElem?_getD, List.getElem?_eq_getElem hlt]; rfl
    have hw : (nm :: L.map (opndL a b c n)).getD (k + 1) [] = opndL a b c n L[k] := by
      rw [List.getD_eq_getElem?_getD, List.getElem?_cons_succ, List.getElem?_map, List.getElem?_eq_getElem hlt]; rfl
    have ht : L.take (k + 1) = L.take k ++ [L[k]] := by rw [List.take_succ_eq_append_getElem hlt]
    simp only [pfG]
    rw [ih, hL, hw, opndL_eq, ht]
    generalize L[k] = x
    generalize L.take k = T
    have e1 : ∀ y : UInt8, decide (y ∈ T ++ [x]) = (decide (y ∈ T) || decide (y = x)) := by intro y; rw [Bool.eq_iff_iff]; simp
    have e2 : (T ++ [x]).any isN = (T.any isN || isN x) := by simp
    rw [e1, e1, e1, e2]
    by_cases h1 : x = 97
    · subst h1
      rw [if_pos rfl, if_pos rfl, hru _ ha]
      simp [come, isN]
    · rw [if_neg h1, if_neg h1]
      by_cases h2 : x = 98
      · subst h2
        rw [if_pos rfl, if_pos rfl, hru _ hb]
        simp [come, isN]
      · rw [if_neg h2, if_neg h2]
        by_cases h3 : x = 99
        · subst h3
          rw [if_pos rfl, if_pos rfl, hru _ hc]
          simp [come, isN]
        · rw [if_neg h3, if_neg h3, hrn]
          have : isN x = true := by simp [isN, h1, h2, h3]
          rw [this]
          simp [comeI, Ne.symm h1, Ne.symm h2, Ne.symm h3]
theorem pfG_whole (ru : List UInt8 → Nat) (rn : List UInt8 → Int) (L : List UInt8) (a b c n : Int) (nm : List UInt8)
    (hru : ∀ r : Nat, r < 16 → ru (114 :: Lib.decDigits r) = r) (hrn : rn (Lib.itoa n) = n) (hl : legalS L a b c n = true) (ha : 0 ≤ a) (hb : 0 ≤ b) (hc : 0 ≤ c) :
    pfG ru rn L (nm :: L.map (opndL a b c n)) L.length = (a.toNat, b.toNat, c.toNat, n) := by
  obtain ⟨g1, g2, g3⟩ := legal_regs hl
  rw [pfG_go ru rn L a b c n nm hru hrn (by omega) (by omega) (by omega) L.length (Nat.le_refl _), List.take_length]
  unfold legalS at hl
  rw [Bool.and_eq_true, Bool.and_eq_true, Bool.and_eq_true] at hl
  obtain ⟨h1, h2, h3, h4⟩ := hl
  have key : ∀ (v : Int) (m : Nat) (x : UInt8), x.toNat = m → regOk (hasB L m) v = true → 0 ≤ v → come (decide (x ∈ L)) v.toNat = v.toNat := by
    intro v m x hx hr h0
    by_cases hm : x ∈ L
    · simp [come, hm]
    · have : hasB L m = false := by
        rcases hq : hasB L m with _ | _
        · rfl
        · exact absurd ((hasB_iff L m x hx).1 hq) hm
      rw [this] at hr
      have : v = 0 := by simpa [regOk] using hr
      subst this
      simp [come]
  rw [key a 97 97 rfl h1 ha, key b 98 98 rfl h2 hb, key c 99 99 rfl h3 hc]
  have : comeI (L.any isN) n = n := by
    rw [Bool.or_eq_true, Bool.or_eq_true] at h4
    have hany : ∀ x : UInt8, isN x = true → x ∈ L → L.any isN = true := fun x hx hm => List.any_eq_true.2 ⟨x, hm, hx⟩
    rcases h4 with h4 | h4 | h4
    · rw [hany 110 (by decide) ((hasB_iff L 110 110 rfl).1 h4)]; rfl
    · rw [hany 112 (by decide) ((hasB_iff L 112 112 rfl).1 h4)]; rfl
    · have : n = 0 := of_decide_eq_true h4
      subst this
      unfold comeI; split <;> rfl
  rw [this]
theorem itoa_clean (n : Int) : ∀ c ∈ Lib.itoa n, c ≠ 32 := by
  intro c hc
  unfold Lib.itoa at hc
  have hd : ∀ u, c ∈ Lib.decDigits u → c ≠ 32 := fun u h e => by
    have := dec_letters u c h
    subst e
    simp at this
  split at hc
  · rcases List.mem_cons.1 hc with rfl | hc
    · decide
    · exact hd _ hc
  · exact hd _ hc
theorem opndL_clean (a b c n : Int) (ch : UInt8) : ∀ x ∈ opndL a b c n ch, x ≠ 32 := by
  intro x hx
  rw [opndL_eq] at hx
  have hd : ∀ u, x ∈ (114 :: Lib.decDigits u : List UInt8) → x ≠ 32 := fun u h => by
    rcases List.mem_cons.1 h with rfl | h
    · decide
    · intro e; have := dec_letters u x h; subst e; simp at this
  split at hx
  · exact hd _ hx
  · split at hx
    · exact hd _ hx
    · split at hx
      · exact hd _ hx
      · exact itoa_clean n x hx
theorem names_clean : ((List.range 28).all fun i => (opNames.getD i []).all fun c => decide (c ≠ 32)) = true := by kernel_rfl
theorem name_clean (i : Nat) (h : i ≤ 27) : ∀ c ∈ (nameB i).data.toList, c ≠ 32 := by
  intro c hc
  have q := List.all_eq_true.1 (List.all_eq_true.1 names_clean i (List.mem_range.2 (by omega))) c (by simpa [nameB] using hc)
  exact of_decide_eq_true q
/-- THE LINE OF A LEGAL INSTRUCTION: its words, and what any good reader makes of them -/
theorem show_cut (i : Nat) (a b c n : Int) (hl : legalB i a b c n = true) (h2 : i ≤ 27) :
    cut32 (showS i a b c n).data.toList = (nameB i).data.toList :: (shapeB i).data.toList.map (opndL a b c n) := by
  unfold showS
  rw [if_pos hl, Int.toNat_natCast]
  have e : ((nameB i :: (shapeB i).data.toList.map (opndB a b c n)).map (·.data.toList)) = (nameB i).data.toList :: (shapeB i).data.toList.map (opndL a b c n) := by
    rw [List.map_cons, List.map_map]; rfl
  rw [e]
  show cut32 (Lib.join _ [32]) = _
  refine cut32_join _ _ ?_
  intro x hx ch hch
  rcases List.mem_cons.1 hx with rfl | hx
  · exact name_clean i h2 ch hch
  · obtain ⟨y, _, rfl⟩ := List.mem_map.1 hx
    exact opndL_clean a b c n y ch hch
theorem show_back (ru : List UInt8 → Nat) (rn : List UInt8 → Int) (i : Nat) (a b c n : Int)
    (hru : ∀ r : Nat, r < 16 → ru (114 :: Lib.decDigits r) = r) (hrn : rn (Lib.itoa n) = n) (hl : legalB i a b c n = true) (h2 : i ≤ 27) (ha : 0 ≤ a) (hb : 0 ≤ b) (hc : 0 ≤ c) :
    pfG ru rn (shapeB i).data.toList (cut32 (showS i a b c n).data.toList) (min (shapeB i).size ((cut32 (showS i a b c n).data.toList).length - 1)) = (a.toNat, b.toNat, c.toNat, n) := by
  rw [show_cut i a b c n hl h2]
  have hs : legalS (shapeB i).data.toList a b c n = true := by
    have h := hl
    unfold legalB at h
    rw [Bool.and_eq_true] at h
    have e : (shapeB i).data.toList = opShapes.getD (i : Int).toNat [] := by simp [shapeB]
    rw [e]; exact h.2
  have e : min (shapeB i).size (((nameB i).data.toList :: (shapeB i).data.toList.map (opndL a b c n)).length - 1) = (shapeB i).data.toList.length := by
    have : (shapeB i).size = (shapeB i).data.toList.length := by rw [Array.length_toList]; rfl
    rw [List.length_cons, List.length_map, this]; omega
  rw [e]
  exact pfG_whole ru rn _ a b c n _ hru hrn hs ha hb hc
end Go.Proofs.YtcbhkeinmdobhaaDoor
