import Derived.Test.YtcbhkeinmdobhaaDoorPReadsx3
import Derived.Test.YtcbhkeinmdobhaaDoorRg
namespace Go.Proofs.YtcbhkeinmdobhaaDoor
open Go.RowKit Go.Proofs.YtcbhkeinmdobhaaDoor.PReads Go.Proofs.YtcbhkeinmdobhaaDoorW.PrintWords
set_option linter.unusedVariables false
set_option linter.unusedSimpArgs false

theorem wrap_in {x : Int} (h0 : -9223372036854775808 ≤ x) (h1 : x ≤ 9223372036854775807) : wrap64 x = x := by unfold wrap64; omega
theorem bt_nat (s : ByteArray) (i : Nat) (h : i < s.size) : bt s (i : Int) = ((s.data.toList[i]'(by rw [Array.length_toList]; exact h)).toNat : Int) := by
  unfold bt
  rw [dif_pos (by simpa using h)]
  simp [ByteArray.getElem_eq_getElem_data]
theorem cut32_snoc : ∀ (l : List UInt8) (c : UInt8), cut32 (l ++ [c]) = if c = 32 then cut32 l ++ [[]] else (cut32 l).dropLast ++ [(cut32 l).getLastD [] ++ [c]]
  | [], c => by
    by_cases h : c = 32 <;> simp [cut32, h]
  | d :: r, c => by
    have ih := cut32_snoc r c
    have hne := cut32_ne r
    rw [List.cons_append]
    simp only [cut32]
    by_cases hd : d = 32
    · rw [if_pos hd, if_pos hd, ih]
      by_cases hc : c = 32
      · rw [if_pos hc, if_pos hc]; rfl
      · rw [if_neg hc, if_neg hc]
        rcases hq : cut32 r with _ | ⟨x, t⟩
        · exact absurd hq hne
        · simp
    · rw [if_neg hd, if_neg hd, ih]
      rcases hq : cut32 r with _ | ⟨x, t⟩
      · exact absurd hq hne
      · by_cases hc : c = 32
        · rw [if_pos hc, if_pos hc]; simp
        · rw [if_neg hc, if_neg hc]
          cases t with
          | nil => simp
          | cons y t => simp
theorem ext_list (s : ByteArray) (a b : Nat) : (s.extract a b).data.toList = (s.data.toList.take b).drop a := by
  rw [Lib.extract_data, List.drop_take]
theorem words_go (s : ByteArray) (hs : s.size ≤ 2000000) : ∀ (d k i fr : Nat) (out : List ByteArray), fr ≤ i → i ≤ s.size → s.size - i = d → d + 1 < k → out.length ≤ i →
    out.map (·.data.toList) ++ [(s.data.toList.take i).drop fr] = cut32 (s.data.toList.take i) → ∃ r, bulkheadref03_words.l0 k s out fr i = some r ∧ r.map (·.data.toList) = cut32 s.data.toList := by
  intro d
  induction d with
  | zero =>
    intro k i fr out h1 h2 hd hk ho hr
    obtain ⟨k, rfl⟩ : ∃ m, k = m + 1 := ⟨k - 1, by omega⟩
    obtain ⟨k, rfl⟩ : ∃ m, k = m + 1 := ⟨k - 1, by omega⟩
    have hi : i = s.size := by omega
    subst hi
    refine ⟨out ++ [s.extract fr s.size], ?_, ?_⟩
    · simp only [bulkheadref03_words.l0]
      rw [if_pos (Int.le_refl _), if_pos trivial, if_pos (by omega), if_pos (by omega), if_pos (by omega), wrap_in (by omega) (by omega), if_neg (by omega)]
      simp
    · rw [List.map_append, List.map_cons, List.map_nil, ext_list, hr, List.take_of_length_le (by rw [Array.length_toList]; exact Nat.le_refl _)]
  | succ d ih =>
    intro k i fr out h1 h2 hd hk ho hr
    obtain ⟨k, rfl⟩ : ∃ m, k = m + 1 := ⟨k - 1, by omega⟩
    have hlt : i < s.size := by omega
    have hlt' : i < s.data.toList.length := by rw [Array.length_toList]; exact hlt
    have ht : s.data.toList.take (i + 1) = s.data.toList.take i ++ [s.data.toList[i]] := by rw [List.take_succ_eq_append_getElem hlt']
    have hsn := cut32_snoc (s.data.toList.take i) s.data.toList[i]
    simp only [bulkheadref03_words.l0]
    rw [if_pos (by omega), if_neg (by omega), if_pos (by omega), if_pos (by omega), bt_nat s i hlt, wrap_in (x := (i : Int) + 1) (by omega) (by omega)]
    have hcast : ((i : Int) + 1) = ((i + 1 : Nat) : Int) := by omega
    by_cases hc : s.data.toList[i] = 32
    · rw [if_pos (by rw [hc]; rfl), if_pos (by omega), if_pos (by omega), if_pos (by omega), hcast]
      refine ih k (i + 1) (i + 1) _ (Nat.le_refl _) (by omega) (by omega) (by omega) (by simp; omega) ?_
      rw [ht, hsn, if_pos hc, ← hr, List.map_append, List.map_cons, List.map_nil]
      have e : ((s.extract (fr : Int).toNat (i : Int).toNat)).data.toList = (s.data.toList.take i).drop fr := by
        rw [Int.toNat_natCast, Int.toNat_natCast, ext_list]
      rw [e]
      have e2 : (s.data.toList.take i ++ [s.data.toList[i]]).drop (i + 1) = [] := by
        rw [List.drop_eq_nil_iff]; simp; omega
      rw [e2]
    · have hne : ¬ ((s.data.toList[i]).toNat : Int) = 32 := fun h => hc (UInt8.toNat_inj.1 (Int.ofNat_inj.1 h))
      rw [if_neg hne, hcast]
      refine ih k (i + 1) fr out (by omega) (by omega) (by omega) (by omega) (by omega) ?_
      rw [ht, hsn, if_neg hc, ← hr, List.dropLast_concat, List.getLastD_concat]
      rw [List.drop_append_of_le_length (by rw [List.length_take]; omega)]
theorem words_ref (s : ByteArray) (hs : s.size ≤ 2000000) (K : Nat) (hK : s.size + 3 ≤ K) : ∃ r, bulkheadref03_words.f K s = some r ∧ r.map (·.data.toList) = cut32 s.data.toList := by
  unfold bulkheadref03_words.f
  exact words_go s hs s.size K 0 0 [] (Nat.le_refl _) (Nat.zero_le _) (by omega) (by omega) (by simp) (by simp [cut32])

/-- what the document's value comes to, with its wraps -/
theorem vstep_go (l : List UInt8) : ∀ (n : Int), 0 ≤ n → 0 ≤ l.foldl vstep n := by
  induction l with
  | nil => intro n h; exact h
  | cons c r ih => intro n h; rw [List.foldl_cons]; exact ih _ (by unfold vstep; split <;> omega)
theorem vfold_lt (l : List UInt8) (k : Nat) : ∀ (n : Int), 0 ≤ n → n < 10 ^ k → l.foldl vstep n < 10 ^ (k + l.length) := by
  induction l generalizing k with
  | nil => intro n _ h; simpa using h
  | cons c r ih =>
    intro n h0 h
    rw [List.foldl_cons, List.length_cons, show k + (r.length + 1) = (k + 1) + r.length from by omega]
    have hs := vstep_in n c (10 ^ k) h0 h
    exact ih (k + 1) _ hs.1 (by rw [Int.pow_succ]; omega)
theorem vfold_small (l : List UInt8) (h : l.length ≤ 11) : 0 ≤ l.foldl vstep 0 ∧ l.foldl vstep 0 < 100000000000 := by
  have h1 := vfold_lt l 0 0 (by omega) (by omega)
  refine ⟨vstep_go l 0 (by omega), ?_⟩
  rw [Nat.zero_add] at h1
  have h2 : (10 : Int) ^ l.length ≤ 10 ^ 11 := by
    have := Nat.pow_le_pow_right (n := 10) (by omega) h
    have h3 : ((10 ^ l.length : Nat) : Int) ≤ ((10 ^ 11 : Nat) : Int) := by omega
    simpa using h3
  omega
theorem value_end (k : Nat) (s : ByteArray) (n : Int) (hs : s.size ≤ 2000000) (i : Int) (h0 : 0 ≤ n) (h1 : n < 100000000000) (b : Bool) (hb : b = false) :
    bulkheadref03_value.j1 (k + 1) s n i b = some (if s.data.toList.head? = some 45 then -n else n) := by
  subst hb
  simp only [bulkheadref03_value.j1]
  rw [if_neg (by simp)]
  by_cases hz : s.size = 0
  · rw [if_neg (by omega)]
    have : s.data.toList = [] := List.eq_nil_of_length_eq_zero (by rw [Array.length_toList]; exact hz)
    rw [this]; simp
  · have hlt : 0 < s.data.toList.length := by rw [Array.length_toList]; show 0 < s.size; omega
    rw [if_pos (by omega), if_pos (by omega)]
    have hb0 : bt s 0 = ((s.data.toList[0]'hlt).toNat : Int) := bt_nat s 0 (by omega)
    rw [hb0]
    have hh : s.data.toList.head? = some (s.data.toList[0]'hlt) := by rw [List.head?_eq_getElem?, List.getElem?_eq_getElem hlt]
    rw [hh]
    by_cases hc : s.data.toList[0]'hlt = 45
    · rw [if_pos (by rw [hc]; rfl), if_pos (by rw [hc]), wrap_in (by omega) (by omega)]
    · rw [if_neg (fun (h : ((s.data.toList[0]'hlt).toNat : Int) = 45) => hc (UInt8.toNat_inj.1 (Int.ofNat_inj.1 h))), if_neg (fun h => hc (Option.some.inj h))]
theorem value_go (s : ByteArray) (hs : s.size ≤ 2000000) : ∀ (d k i : Nat) (n : Int), i ≤ min s.size 11 → min s.size 11 - i = d → 2 * d + 1 < k → n = (s.data.toList.take i).foldl vstep 0 →
    bulkheadref03_value.l0 k s n i = some (valS s.data.toList) := by
  intro d
  induction d with
  | zero =>
    intro k i n h1 hd hk hn
    obtain ⟨k, rfl⟩ : ∃ m, k = m + 1 := ⟨k - 1, by omega⟩
    obtain ⟨k, rfl⟩ : ∃ m, k = m + 1 := ⟨k - 1, by omega⟩
    have hi : i = min s.size 11 := by omega
    have hb := vfold_small (s.data.toList.take i) (by rw [List.length_take]; omega)
    rw [← hn] at hb
    have hlen : s.data.toList.length = s.size := Array.length_toList
    have hv : valS s.data.toList = if s.data.toList.head? = some 45 then -n else n := by
      unfold valS valN
      have e : s.data.toList.take 11 = s.data.toList.take i := by
        rw [hi, ← hlen]
        rcases Nat.le_total s.data.toList.length 11 with h | h
        · rw [Nat.min_eq_left h, List.take_of_length_le h, List.take_of_length_le (Nat.le_refl _)]
        · rw [Nat.min_eq_right h]
      rw [e, ← hn]
    rw [hv]
    simp only [bulkheadref03_value.l0]
    by_cases hlt : (i : Int) < s.size
    · rw [if_pos hlt]
      exact value_end k s n hs i hb.1 hb.2 _ (by simp; omega)
    · rw [if_neg hlt]
      exact value_end k s n hs i hb.1 hb.2 _ rfl
  | succ d ih =>
    intro k i n h1 hd hk hn
    obtain ⟨k, rfl⟩ : ∃ m, k = m + 1 := ⟨k - 1, by omega⟩
    obtain ⟨k, rfl⟩ : ∃ m, k = m + 1 := ⟨k - 1, by omega⟩
    have hlt : i < s.size := by omega
    have hlt' : i < s.data.toList.length := by rw [Array.length_toList]; exact hlt
    have hb := vfold_small (s.data.toList.take i) (by rw [List.length_take]; omega)
    rw [← hn] at hb
    have ht : (s.data.toList.take (i + 1)).foldl vstep 0 = vstep n s.data.toList[i] := by
      rw [List.take_succ_eq_append_getElem hlt', List.foldl_append, ← hn]; rfl
    simp only [bulkheadref03_value.l0]
    rw [if_pos (by omega)]
    simp only [bulkheadref03_value.j1]
    rw [if_pos (by simp; omega), if_pos (by omega), if_pos (by omega), bt_nat s i hlt, wrap_in (x := (i : Int) + 1) (by omega) (by omega)]
    have hcast : ((i : Int) + 1) = ((i + 1 : Nat) : Int) := by omega
    rw [hcast]
    generalize hc : s.data.toList[i] = c at *
    have hu := c.toNat_lt
    by_cases h48 : (c.toNat : Int) ≥ 48
    · rw [if_pos h48]
      by_cases h57 : (c.toNat : Int) ≤ 57
      · rw [if_pos h57]
        refine ih k (i + 1) _ (by omega) (by omega) (by omega) ?_
        rw [ht]
        unfold vstep
        rw [if_pos (by omega), wrap_in (x := 10 * n) (by omega) (by omega), wrap_in (by omega) (by omega)]
        omega
      · rw [if_neg h57]
        refine ih k (i + 1) _ (by omega) (by omega) (by omega) ?_
        rw [ht]
        unfold vstep
        rw [if_neg (by omega)]
    · rw [if_neg h48]
      refine ih k (i + 1) _ (by omega) (by omega) (by omega) ?_
      rw [ht]
      unfold vstep
      rw [if_neg (by omega)]
theorem value_ref (s : ByteArray) (hs : s.size ≤ 2000000) (k : Nat) (hk : 23 < k) : bulkheadref03_value.f k s = some (valS s.data.toList) := by
  unfold bulkheadref03_value.f
  exact value_go s hs (min s.size 11) k 0 0 (Nat.zero_le _) (by omega) (by omega) (by simp)

/-- the document's readers of a word -/
def ruR (l : List UInt8) : Nat := (valS l % 256).toNat
def rnR (l : List UInt8) : Int := wrap32 (valS l)
theorem good_ruR : ∀ r : Nat, r < 16 → ruR (114 :: Lib.decDigits r) = r := fun r h => by
  unfold ruR
  rw [val_reg r (by omega)]; omega
theorem good_rnR : ∀ n : Int, -2147483648 ≤ n → n ≤ 2147483647 → rnR (Lib.itoa n) = n := fun n h0 h1 => by
  unfold rnR
  rw [val_num n h0 h1]
  unfold wrap32; omega
theorem rnR_in (l : List UInt8) : -2147483648 ≤ rnR l ∧ rnR l ≤ 2147483647 := by unfold rnR wrap32; omega
theorem ruR_lt (l : List UInt8) : ruR l < 256 := by unfold ruR; omega
theorem ruR_eq (l : List UInt8) : valS l % 256 = (ruR l : Int) := by unfold ruR; omega
theorem pfR_in (L : List UInt8) (ws : List (List UInt8)) : ∀ k, (pfG ruR rnR L ws k).1 < 256 ∧ (pfG ruR rnR L ws k).2.1 < 256 ∧ (pfG ruR rnR L ws k).2.2.1 < 256 ∧ -2147483648 ≤ (pfG ruR rnR L ws k).2.2.2 ∧ (pfG ruR rnR L ws k).2.2.2 ≤ 2147483647
  | 0 => by simp [pfG]
  | k + 1 => by
    have ih := pfR_in L ws k
    have hp := ruR_lt (ws.getD (k + 1) [])
    have hi := rnR_in (ws.getD (k + 1) [])
    simp only [pfG]
    split
    · exact ⟨hp, ih.2⟩
    · split
      · exact ⟨ih.1, hp, ih.2.2⟩
      · split
        · exact ⟨ih.1, ih.2.1, hp, ih.2.2.2⟩
        · exact ⟨ih.1, ih.2.1, ih.2.2.1, hi⟩
def resR (s : ByteArray) (i : Nat) (p : Nat × Nat × Nat × Int) : Int × Int × Int × Int × Int × Int :=
  if (showS i p.1 p.2.1 p.2.2.1 p.2.2.2).toList = s.toList then ((i : Int), (p.1 : Int), (p.2.1 : Int), (p.2.2.1 : Int), p.2.2.2, 0) else (0, 0, 0, 0, 0, 41)
theorem show_ref (s : ByteArray) (i : Nat) (h : i ≤ 27) (p : Nat × Nat × Nat × Int) (hn0 : -2147483648 ≤ p.2.2.2) (hn1 : p.2.2.2 ≤ 2147483647) :
    ((bulkheadref03_Show.f i p.1 p.2.1 p.2.2.1 p.2.2.2).bind fun bt164 => if bt164.1.toList = s.toList then some ((i : Int), (p.1 : Int), (p.2.1 : Int), (p.2.2.1 : Int), p.2.2.2, (0 : Int)) else some (0, 0, 0, 0, 0, 41)) = some (resR s i p) := by
  unfold bulkheadref03_Show.f resR
  rw [if_pos ⟨⟨by omega, by omega⟩, by omega, by omega, by omega, hn0, hn1⟩]
  simp only [Option.bind_some]
  split <;> rfl
theorem read_l1 (s : ByteArray) (ws : List ByteArray) (i : Nat) (hi : i ≤ 27) (hz : ∀ x ∈ ws, x.size ≤ 2000000) (hl : ws.length ≤ 2000001) (hsh : (shapeB i).size ≤ 100) : ∀ (d k j : Nat) (a b c n : Int),
    j ≤ min (shapeB i).size (ws.length - 1) → min (shapeB i).size (ws.length - 1) - j = d → d + 26 < k →
    (a, b, c, n) = (((pfG ruR rnR (shapeB i).data.toList (ws.map (·.data.toList)) j).1 : Int), ((pfG ruR rnR (shapeB i).data.toList (ws.map (·.data.toList)) j).2.1 : Int), ((pfG ruR rnR (shapeB i).data.toList (ws.map (·.data.toList)) j).2.2.1 : Int), (pfG ruR rnR (shapeB i).data.toList (ws.map (·.data.toList)) j).2.2.2) →
    bulkheadref03_Read.l1 k s ws (shapeB i) j i a b c n = some (resR s i (pfG ruR rnR (shapeB i).data.toList (ws.map (·.data.toList)) (min (shapeB i).size (ws.length - 1)))) := by
  intro d
  induction d with
  | zero =>
    intro k j a b c n h1 hd hk hp
    obtain ⟨k, rfl⟩ : ∃ m, k = m + 1 := ⟨k - 1, by omega⟩
    have hj : j = min (shapeB i).size (ws.length - 1) := by omega
    have hin := pfR_in (shapeB i).data.toList (ws.map (·.data.toList)) j
    rw [← hj]
    simp only [Prod.mk.injEq] at hp
    obtain ⟨rfl, rfl, rfl, rfl⟩ := hp
    simp only [bulkheadref03_Read.l1]
    by_cases hlt : (j : Int) < (shapeB i).size
    · rw [if_pos hlt, wrap_in (by omega) (by omega), if_neg (by omega)]
      exact show_ref s i hi _ hin.2.2.2.1 hin.2.2.2.2
    · rw [if_neg hlt]
      exact show_ref s i hi _ hin.2.2.2.1 hin.2.2.2.2
  | succ d ih =>
    intro k j a b c n h1 hd hk hp
    obtain ⟨k, rfl⟩ : ∃ m, k = m + 1 := ⟨k - 1, by omega⟩
    have hlt : j < (shapeB i).size := by omega
    have hlt2 : j + 1 < ws.length := by omega
    simp only [Prod.mk.injEq] at hp
    obtain ⟨rfl, rfl, rfl, rfl⟩ := hp
    simp only [bulkheadref03_Read.l1]
    rw [if_pos (by omega), wrap_in (by omega) (by omega), if_pos (by omega), if_pos (by omega), if_pos (by omega)]
    have hcast : ((j : Int) + 1) = ((j + 1 : Nat) : Int) := by omega
    have hw : rdOf ByteArray.empty ws ((j : Int) + 1) = ws[j + 1] := by
      unfold rdOf
      rw [hcast, Int.toNat_natCast, List.getD_eq_getElem?_getD, List.getElem?_eq_getElem hlt2]; rfl
    have hwz : (ws[j + 1]).size ≤ 2000000 := hz _ (List.getElem_mem hlt2)
    have hL : (shapeB i).data.toList.length = (shapeB i).size := Array.length_toList
    have hgL : (shapeB i).data.toList.getD j 0 = (shapeB i).data.toList[j]'(by omega) := by
      rw [List.getD_eq_getElem?_getD, List.getElem?_eq_getElem (by omega)]; rfl
    have hgw : (ws.map (·.data.toList)).getD (j + 1) [] = (ws[j + 1]).data.toList := by
      rw [List.getD_eq_getElem?_getD, List.getElem?_map, List.getElem?_eq_getElem hlt2]; rfl
    rw [hw]
    unfold bulkheadref03_with.f
    rw [value_ref _ hwz k (by omega), bt_nat _ j hlt]
    simp only [Option.bind_some]
    have hstep : pfG ruR rnR (shapeB i).data.toList (ws.map (·.data.toList)) (j + 1) =
        (let p := pfG ruR rnR (shapeB i).data.toList (ws.map (·.data.toList)) j
         if (shapeB i).data.toList[j]'(by omega) = 97 then (ruR (ws[j + 1]).data.toList, p.2.1, p.2.2.1, p.2.2.2)
         else if (shapeB i).data.toList[j]'(by omega) = 98 then (p.1, ruR (ws[j + 1]).data.toList, p.2.2.1, p.2.2.2)
         else if (shapeB i).data.toList[j]'(by omega) = 99 then (p.1, p.2.1, ruR (ws[j + 1]).data.toList, p.2.2.2)
         else (p.1, p.2.1, p.2.2.1, rnR (ws[j + 1]).data.toList)) := by
      simp only [pfG]
      rw [hgL, hgw]
    generalize hch : (shapeB i).data.toList[j]'(by omega) = ch at *
    rw [hcast]
    have key : ∀ (m : Int) (x : UInt8), (x.toNat : Int) = m → (((ch.toNat : Int) = m) ↔ ch = x) := fun m x hx => by
      constructor
      · intro h; exact UInt8.toNat_inj.1 (by omega)
      · intro h; subst h; omega
    have k97 := key 97 97 rfl
    have k98 := key 98 98 rfl
    have k99 := key 99 99 rfl
    rw [ruR_eq]
    by_cases c1 : ch = 97
    · rw [if_pos (k97.2 c1)]
      refine ih k (j + 1) _ _ _ _ (by omega) (by omega) (by omega) ?_
      rw [hstep]
      simp only [if_pos c1]
    · rw [if_neg (fun h => c1 (k97.1 h))]
      by_cases c2 : ch = 98
      · rw [if_pos (k98.2 c2)]
        refine ih k (j + 1) _ _ _ _ (by omega) (by omega) (by omega) ?_
        rw [hstep]
        simp only [if_neg c1, if_pos c2]
      · rw [if_neg (fun h => c2 (k98.1 h))]
        by_cases c3 : ch = 99
        · rw [if_pos (k99.2 c3)]
          refine ih k (j + 1) _ _ _ _ (by omega) (by omega) (by omega) ?_
          rw [hstep]
          simp only [if_neg c1, if_neg c2, if_pos c3]
        · rw [if_neg (fun h => c3 (k99.1 h))]
          refine ih k (j + 1) _ _ _ _ (by omega) (by omega) (by omega) ?_
          rw [hstep]
          simp only [if_neg c1, if_neg c2, if_neg c3]
          rfl

def nmsR : List ByteArray := bulkheadref03_names.f.getD []
def shsR : List ByteArray := bulkheadref03_shapes.f.getD []
theorem nms_some : bulkheadref03_names.f = some nmsR := rfl
theorem shs_some : bulkheadref03_shapes.f = some shsR := rfl
theorem nms_all : (nmsR.length == 28 && shsR.length == 28 && (List.range 28).all fun i => (nmsR.getD i ⟨#[]⟩).data.toList == (nameB i).data.toList && (shsR.getD i ⟨#[]⟩).data.toList == (shapeB i).data.toList) = true := by kernel_rfl
theorem nms_len : nmsR.length = 28 ∧ shsR.length = 28 := by
  have h := nms_all
  simp only [Bool.and_eq_true, beq_iff_eq] at h
  exact h.1
theorem nms_at (i : Nat) (h : i ≤ 27) : rdOf ByteArray.empty nmsR i = nameB i ∧ rdOf ByteArray.empty shsR i = shapeB i := by
  have hh := nms_all
  rw [Bool.and_eq_true] at hh
  have q := List.all_eq_true.1 hh.2 i (List.mem_range.2 (by omega))
  simp only [Bool.and_eq_true, beq_iff_eq] at q
  have e1 : rdOf ByteArray.empty nmsR i = nmsR.getD i ⟨#[]⟩ := by unfold rdOf; rw [Int.toNat_natCast]; rfl
  have e2 : rdOf ByteArray.empty shsR i = shsR.getD i ⟨#[]⟩ := by unfold rdOf; rw [Int.toNat_natCast]; rfl
  rw [e1, e2]
  exact ⟨ByteArray.ext (Array.toList_inj.1 q.1), ByteArray.ext (Array.toList_inj.1 q.2)⟩
theorem shapes_size : ((List.range 28).all fun i => decide ((opShapes.getD i []).length ≤ 100)) = true := by kernel_rfl
theorem shape_size (i : Nat) (h : i ≤ 27) : (shapeB i).size ≤ 100 := by
  have q := of_decide_eq_true (List.all_eq_true.1 shapes_size i (List.mem_range.2 (by omega)))
  have e : (shapeB i).size = (opShapes.getD i []).length := by
    show (List.toArray _).size = _
    rw [List.size_toArray]
  omega
/-- the number found so far -/
def foundR (x0 : ByteArray) : Nat → Nat
  | 0 => 0
  | n + 1 => if 1 ≤ n ∧ (nameB n).toList = x0.toList then n else foundR x0 n
theorem read_l0 (s : ByteArray) (ws : List ByteArray) (x0 : ByteArray) (h0 : 0 < ws.length) (hx : ws.getD 0 ⟨#[]⟩ = x0) (hl : ws.length ≤ 2000001) (hz : ∀ x ∈ ws, x.size ≤ 2000000) (N : Nat) (hN : N = 28) : ∀ (d k op : Nat), 1 ≤ op → op ≤ N → N - op = d → d + 200 < k →
    bulkheadref03_Read.l0 k s ws op (foundR x0 op) 0 0 0 0 = some (if foundR x0 N = 0 then (0, 0, 0, 0, 0, 30) else resR s (foundR x0 N) (pfG ruR rnR (shapeB (foundR x0 N)).data.toList (ws.map (·.data.toList)) (min (shapeB (foundR x0 N)).size (ws.length - 1)))) := by
  have hfl : ∀ n, n ≤ 28 → foundR x0 n ≤ 27 := by
    intro n
    induction n with
    | zero => intro _; simp [foundR]
    | succ n ih =>
      intro h
      unfold foundR
      split
      · omega
      · exact ih (by omega)
  intro d
  induction d with
  | zero =>
    intro k op h1 h2 hd hk
    obtain ⟨k, rfl⟩ : ∃ m, k = m + 1 := ⟨k - 1, by omega⟩
    obtain rfl : op = N := by omega
    have hf := hfl op (by omega)
    clear hfl
    generalize foundR x0 op = q at *
    simp only [bulkheadref03_Read.l0]
    rw [if_neg (by omega)]
    by_cases hz0 : q = 0
    · rw [if_pos (by omega), if_pos hz0]
    · have hq0 : (0 : Int) ≤ (q : Int) := by omega
      have hq1 : (q : Int) < (shsR.length : Int) := by rw [nms_len.2]; omega
      have hq2 : ¬ (q : Int) = 0 := by omega
      have hq3 : wrap64 (q : Int) = (q : Int) := wrap_in (by omega) (by omega)
      have hq4 := (nms_at q hf).2
      have hsz := shape_size q hf
      have hfin := read_l1 s ws q hf hz hl hsz _ k 0 0 0 0 0 (Nat.zero_le _) rfl (by omega) (by simp [pfG])
      rw [if_neg hq2, if_neg hz0, shs_some]
      generalize shsR = SH at *
      rw [Option.bind_some, hq3, if_pos hq0, if_pos hq1, hq4]
      exact hfin
  | succ d ih =>
    intro k op h1 h2 hd hk
    obtain ⟨k, rfl⟩ : ∃ m, k = m + 1 := ⟨k - 1, by omega⟩
    simp only [bulkheadref03_Read.l0]
    rw [if_pos (by omega), nms_some]
    simp only [Option.bind_some]
    have hr0 : rdOf ByteArray.empty ws 0 = x0 := hx
    rw [if_pos (by omega), if_pos (by rw [nms_len.1]; omega), if_pos (by omega), (nms_at op (by omega)).1, hr0, wrap_in (by omega) (by omega)]
    have hcast : ((op : Int) + 1) = ((op + 1 : Nat) : Int) := by omega
    have ih' := ih k (op + 1) (by omega) (by omega) (by omega) (by omega)
    rw [hcast]
    by_cases he : (nameB op).toList = x0.toList
    · rw [if_pos he]
      have e : foundR x0 (op + 1) = op := by simp only [foundR]; rw [if_pos ⟨h1, he⟩]
      rw [e] at ih'
      rw [show (op : Int) % 256 = (op : Int) from by omega]
      exact ih'
    · rw [if_neg he]
      have e : foundR x0 (op + 1) = foundR x0 op := by simp only [foundR]; rw [if_neg (fun h => he h.2)]
      rw [e] at ih'
      exact ih'
theorem found_iff (x0 : ByteArray) : ∀ n, n ≤ 28 → (foundR x0 n = 0 ∧ ∀ j, 1 ≤ j → j < n → ¬ (nameB j).toList = x0.toList) ∨ (1 ≤ foundR x0 n ∧ foundR x0 n < n ∧ (nameB (foundR x0 n)).toList = x0.toList) := by
  intro n
  induction n with
  | zero => intro _; exact .inl ⟨rfl, fun j h1 h2 => by omega⟩
  | succ n ih =>
    intro h
    simp only [foundR]
    by_cases hc : 1 ≤ n ∧ (nameB n).toList = x0.toList
    · rw [if_pos hc]
      exact .inr ⟨hc.1, by omega, hc.2⟩
    · rw [if_neg hc]
      rcases ih (by omega) with ⟨h1, h2⟩ | ⟨h1, h2, h3⟩
      · refine .inl ⟨h1, fun j hj1 hj2 he => ?_⟩
        rcases Nat.lt_or_ge j n with h4 | h4
        · exact h2 j hj1 h4 he
        · obtain rfl : j = n := by omega
          exact hc ⟨hj1, he⟩
      · exact .inr ⟨h1, by omega, h3⟩
/-- THE DOCUMENT's READING OF A LINE: as the program's -/
theorem read_ref (s : ByteArray) (hs : s.size ≤ 2000000) :
    (∀ i a b c n, Ranged i a b c n → legalB i a b c n = true → (showS i a b c n).data.toList = s.data.toList → ∃ k, bulkheadref03_Read.f k s = some ((i : Int), (a : Int), (b : Int), (c : Int), n, 0)) ∧
    ((∀ i a b c n, Ranged i a b c n → legalB i a b c n = true → (showS i a b c n).data.toList ≠ s.data.toList) → (∃ j, NameAt s.data.toList j) → ∃ k, bulkheadref03_Read.f k s = some (0, 0, 0, 0, 0, 41)) ∧
    ((¬ ∃ j, NameAt s.data.toList j) → ∃ k, bulkheadref03_Read.f k s = some (0, 0, 0, 0, 0, 30)) := by
  obtain ⟨N, hN⟩ : ∃ N : Nat, N = 28 := ⟨_, rfl⟩
  obtain ⟨K, hK1, hK2⟩ : ∃ K, s.size + 3 ≤ K ∧ 500 ≤ K := ⟨s.size + 1000, by omega, by omega⟩
  obtain ⟨ws, hw, hwc⟩ := words_ref s hs K hK1
  have hlen : ws.length ≤ 2000001 := by
    have h1 := cut32_len s.data.toList
    have h2 : s.data.toList.length = s.size := Array.length_toList
    have h3 : ws.length = (cut32 s.data.toList).length := by rw [← hwc, List.length_map]
    omega
  have hz : ∀ x ∈ ws, x.size ≤ 2000000 := by
    intro x hx
    have h := cut32_mem_len s.data.toList x.data.toList (by rw [← hwc]; exact List.mem_map_of_mem hx)
    rw [Array.length_toList, Array.length_toList] at h
    have e : s.data.size = s.size := rfl
    have e2 : x.data.size = x.size := rfl
    omega
  have hpos : 0 < ws.length := by
    have := cut32_len_pos s.data.toList
    rwa [← hwc, List.length_map] at this
  have hhead : (cut32 s.data.toList).headD [] = (ws.getD 0 ⟨#[]⟩).data.toList := by
    rw [← hwc]
    rcases ws with _ | ⟨y, r⟩
    · cases hpos
    · rfl
  have key : bulkheadref03_Read.f K s = some (if foundR (ws.getD 0 ⟨#[]⟩) N = 0 then (0, 0, 0, 0, 0, 30) else resR s (foundR (ws.getD 0 ⟨#[]⟩) N) (pfG ruR rnR (shapeB (foundR (ws.getD 0 ⟨#[]⟩) N)).data.toList (ws.map (·.data.toList)) (min (shapeB (foundR (ws.getD 0 ⟨#[]⟩) N)).size (ws.length - 1)))) := by
    unfold bulkheadref03_Read.f
    rw [hw]
    simp only [Option.bind_some]
    exact read_l0 s ws _ hpos rfl hlen hz N hN 27 K 1 (by omega) (by omega) (by omega) (by omega)
  rw [hwc] at key
  have hl2 : ws.length = (cut32 s.data.toList).length := by rw [← hwc, List.length_map]
  rw [hl2] at key
  have hfi := found_iff (ws.getD 0 ⟨#[]⟩) N (by omega)
  generalize foundR (ws.getD 0 ⟨#[]⟩) N = j at *
  have hname : ∀ i, NameAt s.data.toList i ↔ (1 ≤ i ∧ i ≤ 27 ∧ (nameB i).toList = (ws.getD 0 ⟨#[]⟩).toList) := by
    intro i
    unfold NameAt
    rw [hhead, ByteArray.toList_eq, ByteArray.toList_eq]
  refine ⟨?_, ?_, ?_⟩
  · intro i a b c n hr hl he
    have hi := nameAt_show hl hr.i1 hr.i2
    rw [he] at hi
    rcases hfi with ⟨_, h2⟩ | ⟨h1, h2, h3⟩
    · exact absurd ((hname i).1 hi).2.2 (h2 i hr.i1 (by have := hr.i2; omega))
    · have hj : NameAt s.data.toList j := (hname j).2 ⟨h1, by omega, h3⟩
      obtain ⟨rfl, e2⟩ := read_spec ruR rnR good_ruR good_rnR hr hl he hj
      rw [e2, if_neg (by omega)] at key
      refine ⟨_, key.trans ?_⟩
      unfold resR
      have hsh : (showS j a b c n).toList = s.toList := by rw [ByteArray.toList_eq, ByteArray.toList_eq]; exact he
      rw [if_pos hsh]
  · intro hno ⟨i, hi⟩
    rcases hfi with ⟨_, h2⟩ | ⟨h1, h2, h3⟩
    · exact absurd ((hname i).1 hi).2.2 (h2 i hi.1 (by have := hi.2.1; omega))
    · have hj : NameAt s.data.toList j := (hname j).2 ⟨h1, by omega, h3⟩
      rw [if_neg (by omega)] at key
      refine ⟨_, key.trans ?_⟩
      have hin := pfR_in (shapeB j).data.toList (cut32 s.data.toList) (min (shapeB j).size ((cut32 s.data.toList).length - 1))
      generalize pfG ruR rnR (shapeB j).data.toList (cut32 s.data.toList) (min (shapeB j).size ((cut32 s.data.toList).length - 1)) = p at *
      obtain ⟨a, b, c, n⟩ := p
      obtain ⟨g1, g2, g3, g4, g5⟩ := hin
      unfold resR
      rw [if_neg]
      intro hsh
      have he : (showS j a b c n).data.toList = s.data.toList := by rw [← ByteArray.toList_eq, ← ByteArray.toList_eq]; exact hsh
      exact hno j a b c n ⟨h1, by omega, g1, g2, g3, g4, g5⟩ (legal_of_show hj he) he
  · intro hn
    rcases hfi with ⟨h1, _⟩ | ⟨h1, h2, h3⟩
    · rw [if_pos h1] at key
      exact ⟨_, key⟩
    · exact absurd ⟨j, (hname j).2 ⟨h1, by omega, h3⟩⟩ hn
end Go.Proofs.YtcbhkeinmdobhaaDoor
