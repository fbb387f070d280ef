import Derived.Test.YticemfakkgebhaaDoorScrR3
import Derived.Laws.RangeString
namespace Go.Proofs.YticemfakkgebhaaDoor.L
open Go Go.Lift
set_option linter.unusedVariables false
set_option linter.unusedSimpArgs false
set_option maxRecDepth 100000

/-! ### Numbers there and back -/
theorem dec_ne (u : Nat) : Lib.decDigits u ≠ [] := by
  rw [Lib.decDigits]
  split <;> simp
theorem dgN {u : Nat} (h : u < 10) : (UInt8.ofNat (48 + u)).toNat = 48 + u := by
  rw [show (UInt8.ofNat (48 + u)).toNat = (48 + u) % 256 from rfl]; omega
theorem dec_letters : ∀ (u : Nat), ∀ c ∈ Lib.decDigits u, 48 ≤ c.toNat ∧ c.toNat ≤ 57 := by
  intro u
  induction u using Nat.strongRecOn with
  | ind u ih =>
    intro c hc
    rw [Lib.decDigits] at hc
    split at hc
    · rename_i h
      rw [List.mem_singleton.1 hc, dgN h]; omega
    · rename_i h
      rcases List.mem_append.1 hc with hc | hc
      · exact ih _ (by omega) c hc
      · rw [List.mem_singleton.1 hc, dgN (by omega)]; omega
theorem itoa_letters (n : Int) : ∀ c ∈ Lib.itoa n, c.toNat = 45 ∨ (48 ≤ c.toNat ∧ c.toNat ≤ 57) := by
  intro c hc
  unfold Lib.itoa at hc
  split at hc
  · rcases List.mem_cons.1 hc with rfl | hc
    · exact .inl rfl
    · exact .inr (dec_letters _ c hc)
  · exact .inr (dec_letters _ c hc)
theorem stepN_dig (v : Int) (u : Nat) (h : u < 10) : stepN (RowKit.wrap64 v) (((UInt8.ofNat (48 + u)).toNat : Nat) : Int) = RowKit.wrap64 (10 * v + u) := by
  rw [dgN h]
  have hd : dig ((48 + u : Nat) : Int) = u := by
    unfold dig RowKit.wrap64 RowKit.wrap32
    rw [if_neg (by omega), if_neg (by omega)]
    omega
  unfold stepN
  rw [hd, if_pos (by omega)]
  unfold RowKit.wrap64
  omega
theorem fold_dec : ∀ (u : Nat), (Lib.decDigits u).foldl (fun n b => stepN n ((b.toNat : Nat) : Int)) 0 = RowKit.wrap64 u := by
  intro u
  induction u using Nat.strongRecOn with
  | ind u ih =>
    have h0 : (0 : Int) = RowKit.wrap64 0 := by unfold RowKit.wrap64; omega
    rw [Lib.decDigits]
    split
    · rename_i h
      simp only [List.foldl_cons, List.foldl_nil]
      conv => lhs; rw [h0]
      rw [stepN_dig 0 u h]
      congr 1; omega
    · rename_i h
      rw [List.foldl_append, ih (u / 10) (by omega)]
      simp only [List.foldl_cons, List.foldl_nil]
      rw [stepN_dig _ _ (by omega)]
      congr 1; omega
theorem numF_fold (s : ByteArray) (ha : ∀ c ∈ s.data.toList, c.toNat < 128) : ∀ (b pos : Nat) (n : Int), s.size ≤ pos + b → numF s b pos n = (s.data.toList.drop pos).foldl (fun n b => stepN n ((b.toNat : Nat) : Int)) n
  | 0, pos, n, h => by
    rw [List.drop_eq_nil_of_le (by rw [Array.length_toList]; exact h)]; rfl
  | b + 1, pos, n, h => by
    unfold numF
    by_cases hp : pos < s.size
    · rw [if_pos hp]
      have hl : pos < s.data.toList.length := by rw [Array.length_toList]; exact hp
      have e : s[pos]'hp = s.data.toList[pos] := by
        rw [Array.getElem_toList]; rfl
      have hasc := ha _ (List.getElem_mem hl)
      rw [decode_ascii s pos hp (by rw [e]; exact hasc), List.drop_eq_getElem_cons hl, List.foldl_cons, numF_fold s ha b (pos + 1) _ (by omega), e]
    · rw [if_neg hp, List.drop_eq_nil_of_le (by rw [Array.length_toList]; exact Nat.le_of_not_lt hp)]; rfl
theorem num_it {n : Int} (h : inI n) : num (it n) = n := by
  have ha : ∀ c ∈ (it n).data.toList, c.toNat < 128 := fun c hc => by
    have := itoa_letters n c (by simpa [it] using hc)
    omega
  have hf := numF_fold (it n) ha (it n).size 0 0 (by omega)
  have hd : (it n).data.toList = Lib.itoa n := by simp [it]
  rw [List.drop_zero, hd] at hf
  obtain ⟨h1, h2⟩ := h
  unfold num
  rw [hf]
  have hm : minus (it n) = decide (n < 0) := by
    unfold minus Lib.hasPrefix
    rw [hd]
    unfold Lib.itoa
    split
    · rename_i hn
      rw [decide_eq_true hn]; simp [List.isPrefixOf]
    · rename_i hn
      rw [decide_eq_false hn]
      rcases hdd : Lib.decDigits n.toNat with _ | ⟨c, r⟩
      · exact absurd hdd (dec_ne _)
      · have hc := dec_letters n.toNat c (by rw [hdd]; simp)
        have : (45 == c) = false := by
          rw [beq_eq_false_iff_ne]
          intro e
          rw [← e] at hc
          have : (45 : UInt8).toNat = 45 := rfl
          omega
        simp [List.isPrefixOf, this]
  rw [hm]
  unfold Lib.itoa
  by_cases hn : n < 0
  · rw [if_pos (decide_eq_true hn), if_pos hn, List.foldl_cons]
    have h45 : stepN 0 (((45 : UInt8).toNat : Nat) : Int) = 0 := by decide
    rw [h45, fold_dec]
    unfold RowKit.wrap64
    omega
  · rw [if_neg (by rw [decide_eq_true_eq]; exact hn), if_neg hn, fold_dec]
    unfold RowKit.wrap64
    omega

/-! ### A line that is told is read back -/
theorem splitK_more (c : UInt8) : ∀ (l : List UInt8) (k : Nat), Lib.count l [c] ≤ k → Lib.splitK [c] 0 k l = snl c l
  | [], k, h => by
    cases k with
    | zero => rfl
    | succ k => rw [Lib.splitK, if_pos (by rfl)]; rfl
  | a :: l, k, h => by
    by_cases hac : a = c
    · subst hac
      rw [Lib.count_cons_eq] at h
      obtain ⟨k, rfl⟩ : ∃ k', k = k' + 1 := ⟨k - 1, by omega⟩
      have ih := splitK_more a l k (by omega)
      have hix : Lib.index (a :: l) [a] = 0 := by rw [Lib.index]; simp [List.isPrefixOf]
      rw [Lib.splitK, hix, snl_cons_eq, ← ih]
      rfl
    · rw [Lib.count_cons_ne a c l hac] at h
      have ih := splitK_more c l k h
      have hp : ([c] : List UInt8).isPrefixOf (a :: l) = false := by simp [List.isPrefixOf, Ne.symm hac]
      have hix : Lib.index (a :: l) [c] = if Lib.index l [c] == -1 then -1 else Lib.index l [c] + 1 := by rw [Lib.index, hp]; simp
      cases k with
      | zero =>
        have ih : [l] = snl c l := ih
        rw [snl_cons_ne hac ih.symm]; rfl
      | succ k =>
        by_cases hm : Lib.index l [c] = -1
        · rw [Lib.splitK, if_pos (by rw [hm]; rfl)] at ih
          rw [Lib.splitK, if_pos (by rw [hix, hm]; rfl), snl_cons_ne hac ih.symm]
        · have hge := Lib.index_ge l [c]
          obtain ⟨j, hj⟩ : ∃ j : Nat, Lib.index l [c] = j := ⟨(Lib.index l [c]).toNat, by omega⟩
          have hj1 : Lib.index (a :: l) [c] = ((j + 1 : Nat) : Int) := by
            rw [hix, hj, if_neg (by rw [beq_iff_eq]; omega)]; omega
          rw [Lib.splitK, if_neg (by rw [beq_iff_eq, hj]; omega), hj, Int.toNat_natCast] at ih
          rw [Lib.splitK, if_neg (by rw [beq_iff_eq, hj1]; omega), hj1, Int.toNat_natCast, snl_cons_ne hac ih.symm]
          rfl
theorem join_two (x y : List UInt8) (r : List (List UInt8)) (c : UInt8) : Lib.join (x :: y :: r) [c] = x ++ c :: Lib.join (y :: r) [c] := by
  simp [Lib.join, List.intercalate]
theorem snl_join (c : UInt8) : ∀ (x : List UInt8) (r : List (List UInt8)), (∀ y ∈ x :: r, c ∉ y) → snl c (Lib.join (x :: r) [c]) = x :: r
  | x, [], h => by rw [Lib.join_one]; exact snl_one c x (h x (List.mem_cons_self ..))
  | x, y :: r, h => by
    rw [join_two, snl_app c _ _ (h x (List.mem_cons_self ..)), snl_join c y r fun z hz => h z (List.mem_cons_of_mem _ hz)]
theorem count_snl (c : UInt8) : ∀ l : List UInt8, (snl c l).length = Lib.count l [c] + 1
  | [] => by rw [Lib.count_one]; rfl
  | a :: l => by
    by_cases h : a = c
    · subst h; rw [snl_cons_eq, List.length_cons, count_snl a l, Lib.count_cons_eq]; omega
    · obtain ⟨p, ps, hp⟩ := snl_ne c l
      have ih := count_snl c l
      rw [hp] at ih
      rw [snl_cons_ne h hp, Lib.count_cons_ne a c l h, ← ih]; rfl
theorem map_bs_inj : ∀ {a b : List ByteArray}, a.map (·.data.toList) = b.map (·.data.toList) → a = b
  | [], [], _ => rfl
  | [], _ :: _, h => by simp at h
  | _ :: _, [], h => by simp at h
  | x :: a, y :: b, h => by
    simp only [List.map_cons, List.cons.injEq] at h
    rw [bs_ext h.1, map_bs_inj h.2]
theorem nm_letters {k : Int} {q : ByteArray × Int × Int × Int} (h : nmOf k = some q) : (∀ c ∈ q.1.data.toList, 97 ≤ c.toNat) ∧ q.1.data.toList.length ≤ 7 ∧ q.2.2.2 ≤ 16 ∧ (wordsOf q.1).1.1 = k ∧ (wordsOf q.1).2 = true := by
  unfold nmOf at h
  split at h
  · rename_i hk
    obtain rfl := Option.some.inj h
    exact ⟨by decide, by decide, by decide, by rw [words_msg, hk], by rw [words_msg]⟩
  · split at h
    · rename_i hk
      obtain rfl := Option.some.inj h
      exact ⟨by decide, by decide, by decide, by rw [words_wake, hk], by rw [words_wake]⟩
    · cases h
theorem show_spec {x : IN} {s : ByteArray} (h : showS x = some s) : ∃ q, nmOf x.2.1 = some q ∧ legalQ x q ∧ s = lineOf x q.1 := by
  unfold showS at h
  split at h
  · cases h
  · rename_i q hq
    split at h
    · rename_i hl
      exact ⟨q, hq, hl, (Option.some.inj h).symm⟩
    · cases h
theorem lens_it (l : List Int) (h : ∀ n ∈ l, inI n) : Lib.lens ((l.map it).map (·.data.toList)) ≤ 20 * l.length := by
  induction l with
  | nil => simp [Lib.lens]
  | cons n l ih =>
    have h1 := ih fun m hm => h m (List.mem_cons_of_mem _ hm)
    have h2 := itoa_len (h n (List.mem_cons_self ..))
    simp only [List.map_cons, Lib.lens, List.length_cons, List.sum_cons] at *
    simp only [it] at *
    omega
theorem line_size {x : IN} {s : ByteArray} (hd : dI x) (h : showS x = some s) : s.size ≤ 500 ∧ x.2.2.2.1.length ≤ 16 := by
  obtain ⟨q, hq, hl, rfl⟩ := show_spec h
  obtain ⟨_, h7, h16, _⟩ := nm_letters hq
  obtain ⟨_, _, _, _, _, l6⟩ := hl
  have hlen : x.2.2.2.1.length ≤ 16 := by omega
  refine ⟨?_, hlen⟩
  have e : (lineOf x q.1).size = (joinL (fieldsOf x q.1) spB).length := by
    show (List.toArray _).size = _
    rw [List.size_toArray]
  rw [e]
  unfold joinL fieldsOf
  simp only [List.map_cons]
  rw [Lib.join_length]
  have e1 : spB.data.toList.length = 1 := rfl
  rw [e1]
  have h1 := lens_it _ hd.2.2
  have h2 := itoa_len hd.1
  have h3 := itoa_len hd.2.1
  simp only [List.length_cons, List.length_map, Lib.lens, List.map_cons, List.sum_cons] at *
  simp only [it] at *
  omega
theorem line_letters {x : IN} {q : ByteArray × Int × Int × Int} (hq : nmOf x.2.1 = some q) : ∀ y ∈ (fieldsOf x q.1).map (·.data.toList), (32 : UInt8) ∉ y ∧ (10 : UInt8) ∉ y := by
  have hnm := (nm_letters hq).1
  have hit : ∀ n : Int, (32 : UInt8) ∉ (it n).data.toList ∧ (10 : UInt8) ∉ (it n).data.toList := by
    intro n
    constructor <;> intro hc
    · have := itoa_letters n _ (by simpa [it] using hc)
      have e : (32 : UInt8).toNat = 32 := rfl
      omega
    · have := itoa_letters n _ (by simpa [it] using hc)
      have e : (10 : UInt8).toNat = 10 := rfl
      omega
  intro y hy
  obtain ⟨b, hb, rfl⟩ := List.mem_map.1 hy
  unfold fieldsOf at hb
  rcases List.mem_cons.1 hb with rfl | hb
  · exact hit _
  · rcases List.mem_cons.1 hb with rfl | hb
    · constructor <;> intro hc
      · have := hnm _ hc
        have e : (32 : UInt8).toNat = 32 := rfl
        omega
      · have := hnm _ hc
        have e : (10 : UInt8).toNat = 10 := rfl
        omega
    · rcases List.mem_cons.1 hb with rfl | hb
      · exact hit _
      · obtain ⟨n, _, rfl⟩ := List.mem_map.1 hb
        exact hit n
theorem parse_back {x : IN} {s : ByteArray} (hd : dI x) (h : showS x = some s) : parse s = (x, true) := by
  obtain ⟨q, hq, hl, hs⟩ := show_spec h
  have hlen := (line_size hd h).2
  obtain ⟨_, _, _, hw1, hw2⟩ := nm_letters hq
  have hlet := line_letters hq
  have hsd : s.data.toList = Lib.join ((fieldsOf x q.1).map (·.data.toList)) [32] := by
    rw [hs]
    unfold lineOf joinL
    simp [spB]
  have hsn : snl (32 : UInt8) s.data.toList = (fieldsOf x q.1).map (·.data.toList) := by
    rw [hsd]
    exact snl_join 32 _ _ fun y hy => (hlet y hy).1
  have hcount := count_snl 32 s.data.toList
  rw [hsn] at hcount
  have hfl : (fieldsOf x q.1).length = x.2.2.2.1.length + 3 := by simp [fieldsOf]
  rw [List.length_map, hfl] at hcount
  have hsz : (fs s) = fieldsOf x q.1 := by
    refine map_bs_inj ?_
    unfold fs
    have e := Lib.splitB_data spB 0 (min 20 (s.size + 1) - 1) s
    rw [e, show spB.data.toList = [32] from rfl, splitK_more 32 _ _ ?_, hsn]
    have := Lib.count_one 32 s.data.toList
    have hle := List.count_le_length (a := (32 : UInt8)) (l := s.data.toList)
    rw [Array.length_toList] at hle
    have : s.data.size = s.size := rfl
    omega
  unfold parse
  rw [hsz, if_neg (by omega)]
  have g0 : (fieldsOf x q.1).getD 0 emB = it x.1 := rfl
  have g1 : (fieldsOf x q.1).getD 1 emB = q.1 := rfl
  have g2 : (fieldsOf x q.1).getD 2 emB = it x.2.2.1 := rfl
  have g3 : (fieldsOf x q.1).drop 3 = x.2.2.2.1.map it := rfl
  rw [g0, g1, g2, g3]
  dsimp only
  rw [hw1, hw2, num_it hd.1, num_it hd.2.1, List.map_map]
  have hmap : x.2.2.2.1.map (num ∘ it) = x.2.2.2.1 := by
    conv => rhs; rw [← List.map_id x.2.2.2.1]
    exact List.map_congr_left fun n hn => num_it (hd.2.2 n hn)
  rw [hmap]
  have hx : ((x.1, x.2.1, x.2.2.1, x.2.2.2.1, ()) : IN) = x := rfl
  simp only [hx, h, outOf, decide_true, Bool.and_self]
end Go.Proofs.YticemfakkgebhaaDoor.L
