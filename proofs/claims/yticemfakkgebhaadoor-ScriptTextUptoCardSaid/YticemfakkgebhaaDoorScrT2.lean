import Derived.Test.YticemfakkgebhaaDoorScrT
namespace Go.Proofs.YticemfakkgebhaaDoor.L
open Go Go.Lift
set_option linter.unusedVariables false
set_option linter.unusedSimpArgs false
set_option maxRecDepth 100000

/-! ### A text of lines -/
theorem u8s_sbytes (s : ByteArray) : u8s (sbytes s) = s.data.toList := by
  unfold u8s sbytes
  rw [List.map_map]
  conv => rhs; rw [← List.map_id s.data.toList]
  refine List.map_congr_left fun b _ => ?_
  simp
theorem bstr_sbytes (s : ByteArray) : bstr (sbytes s) = s := bs_ext (by rw [bstr_data, u8s_sbytes])
theorem sbytes_bytes (s : ByteArray) : byteL (sbytes s) = true := by
  unfold byteL sbytes
  rw [List.all_eq_true]
  intro x hx
  obtain ⟨b, _, rfl⟩ := List.mem_map.1 hx
  have := b.toNat_lt
  simp only [Bool.and_eq_true, decide_eq_true_eq]
  omega
def lineI (x : IN) : List Int := sbytes ((showS x).getD emB)
theorem told_eq (x : IN) : told x = lineI x ++ [10] := rfl
/-- a line's letters: it is not empty, begins with a digit, has no line end -/
theorem line_first {x : IN} {s : ByteArray} (h : showS x = some s) : ∃ c r, s.data.toList = c :: r ∧ 48 ≤ c.toNat ∧ c.toNat ≤ 57 := by
  obtain ⟨q, hq, hl, hs⟩ := show_spec h
  have hsd : s.data.toList = Lib.join ((fieldsOf x q.1).map (·.data.toList)) [32] := by
    rw [hs]; unfold lineOf joinL; simp [spB]
  have hpos := hl.1
  have e : (it x.1).data.toList = Lib.decDigits x.1.toNat := by
    simp only [it, Lib.itoa]
    rw [if_neg (by omega)]
  unfold fieldsOf at hsd
  rw [List.map_cons, Lib.join_cons, e] at hsd
  rcases hdd : Lib.decDigits x.1.toNat with _ | ⟨c, r⟩
  · exact absurd hdd (dec_ne _)
  · rw [hdd] at hsd
    have hc := dec_letters x.1.toNat c (by rw [hdd]; simp)
    exact ⟨c, _, hsd, hc⟩
theorem join_mem (c : UInt8) : ∀ (x : List UInt8) (r : List (List UInt8)), ∀ b ∈ Lib.join (x :: r) [c], b = c ∨ ∃ y ∈ x :: r, b ∈ y
  | x, [], b, hb => by rw [Lib.join_one] at hb; exact .inr ⟨x, List.mem_cons_self .., hb⟩
  | x, y :: r, b, hb => by
    rw [join_two] at hb
    rcases List.mem_append.1 hb with hb | hb
    · exact .inr ⟨x, List.mem_cons_self .., hb⟩
    · rcases List.mem_cons.1 hb with rfl | hb
      · exact .inl rfl
      · rcases join_mem c y r b hb with h | ⟨z, hz, h⟩
        · exact .inl h
        · exact .inr ⟨z, List.mem_cons_of_mem _ hz, h⟩
theorem line_noend {x : IN} {s : ByteArray} (h : showS x = some s) : (10 : Int) ∉ sbytes s := by
  obtain ⟨q, hq, hl, hs⟩ := show_spec h
  have hsd : s.data.toList = Lib.join ((fieldsOf x q.1).map (·.data.toList)) [32] := by
    rw [hs]; unfold lineOf joinL; simp [spB]
  intro hm
  unfold sbytes at hm
  obtain ⟨b, hb, e⟩ := List.mem_map.1 hm
  have hb10 : b = 10 := by
    apply UInt8.toNat_inj.1
    show b.toNat = 10
    omega
  subst hb10
  rw [hsd] at hb
  rcases join_mem 32 _ _ _ hb with h | ⟨y, hy, hyb⟩
  · cases h
  · exact (line_letters hq y hy).2 hyb
theorem line_skip {x : IN} {s : ByteArray} (h : showS x = some s) : skip (sbytes s) = false := by
  obtain ⟨c, r, hc, h1, h2⟩ := line_first h
  unfold skip sbytes
  rw [hc]
  simp only [List.map_cons, List.isEmpty_cons, Bool.false_or, List.head?_cons]
  rw [beq_eq_false_iff_ne]
  intro e
  have := Option.some.inj e
  omega

theorem snl_told : ∀ (g : List IN) (rest : List Int), goodL g → snl 10 (g.flatMap told ++ rest) = g.map lineI ++ snl 10 rest
  | [], rest, _ => rfl
  | x :: g, rest, hg => by
    obtain ⟨hd, s, hs⟩ := hg x (List.mem_cons_self ..)
    have hl : lineI x = sbytes s := by unfold lineI; rw [hs]; rfl
    rw [List.flatMap_cons, told_eq, List.append_assoc, List.append_assoc, List.singleton_append, snl_app 10 _ _ (by rw [hl]; exact line_noend hs), snl_told g rest fun y hy => hg y (List.mem_cons_of_mem _ hy)]
    rfl
theorem readL_told : ∀ (g : List IN) (ps : List (List Int)) (i : Nat) (out : List IN), goodL g → out.length + g.length ≤ 65536 → readL (g.map lineI ++ ps) i out = readL ps (i + g.length) (out ++ g)
  | [], ps, i, out, _, _ => by simp
  | x :: g, ps, i, out, hg, hl => by
    obtain ⟨hd, s, hs⟩ := hg x (List.mem_cons_self ..)
    have hx : lineI x = sbytes s := by unfold lineI; rw [hs]; rfl
    simp only [List.length_cons] at hl
    rw [List.map_cons, List.cons_append, readL, hx, if_neg (by rw [line_skip hs]; decide), if_neg (by omega), bstr_sbytes, parse_back hd hs, if_pos rfl]
    rw [readL_told g ps (i + 1) (out ++ [x]) (fun y hy => hg y (List.mem_cons_of_mem _ hy)) (by simp; omega)]
    simp only [List.length_cons, List.append_assoc, List.singleton_append]
    congr 1; omega

theorem told_len : ∀ (g : List IN), goodL g → (g.flatMap told).length ≤ 501 * g.length
  | [], _ => by simp
  | x :: g, hg => by
    obtain ⟨hd, s, hs⟩ := hg x (List.mem_cons_self ..)
    have h1 := told_len g fun y hy => hg y (List.mem_cons_of_mem _ hy)
    have h2 := (line_size hd hs).1
    have : (told x).length = s.size + 1 := by
      unfold told
      rw [hs, List.length_append, Option.getD_some, sbytes_length]; rfl
    rw [List.flatMap_cons, List.length_append, this, List.length_cons]
    omega
theorem told_bytes : ∀ (g : List IN), byteL (g.flatMap told) = true
  | [] => rfl
  | x :: g => by
    have h1 := told_bytes g
    have h2 := sbytes_bytes ((showS x).getD emB)
    rw [List.flatMap_cons]
    unfold byteL told at *
    rw [List.all_append, List.all_append, h2, h1]
    rfl

/-! ### Which inputs have a line -/
theorem d4_loop (k0 : Nat) (hk0 : 40 < k0) (K : (List IN × Unit) × List Int × Unit → Option ((Bool × Unit) × Unit)) (l : List IN) (bad : List Int) (hl : l.length < 4611686018427387904) (hd : ∀ x ∈ l, dI x) (hK : ∀ g, goodL g → g.length ≤ 65536 → K ((g, ()), (bad, ())) = some ((true, ()), ())) :
    ∀ n i k (out : List IN), i + n = l.length → n < k → goodL out → out.length ≤ 65536 → loopN (d4_L5 k0 K) k ((out, ()), ((i : Int), (l, (bad, ())))) = some ((true, ()), ()) := by
  intro n
  induction n with
  | zero =>
    intro i k out hi hk hg ho
    obtain ⟨k, rfl⟩ : ∃ k', k = k' + 1 := ⟨k - 1, by omega⟩
    simp only [loopN, d4_L5, lt, dnlt (show l.length ≤ i by omega), Bool.false_eq_true, if_false]
    exact hK out hg ho
  | succ n ih =>
    intro i k out hi hk hg ho
    obtain ⟨k, rfl⟩ : ∃ k', k = k' + 1 := ⟨k - 1, by omega⟩
    have h1 : i < l.length := by omega
    have e1 : ∀ d, l.getD i d = l[i] := by simp [h1]
    have hdi := hd l[i] (List.getElem_mem _)
    have hsh := show_eq k0 (by omega) l[i] hdi
    by_cases hm : out.length < 65536
    · have c1 : decide ((out.length : Int) < 65536) = true := decide_eq_true (by omega)
      have f1 : appFits out.length 1 48 = true := fit1 (by omega) (by omega)
      simp only [loopN, d4_L5, lt, shr, dlt h1, dge0, Bool.and_self, if_true, Int.toNat_natCast, e1, hsh, Option.bind_some, c1, List.length_singleton, f1, d4_K4, d4_K3, wr1 (show i < 4611686018427387904 by omega)]
      cases hs : showS l[i] with
      | none =>
        simp only [outOf, Bool.false_eq_true, if_false]
        exact ih (i + 1) k out (by omega) (by omega) hg ho
      | some s =>
        simp only [outOf, if_true]
        refine ih (i + 1) k (out ++ [l[i]]) (by omega) (by omega) (fun x hx => ?_) (by simp; omega)
        rcases List.mem_append.1 hx with hx | hx
        · exact hg x hx
        · rw [List.mem_singleton.1 hx]; exact ⟨hdi, s, hs⟩
    · have c1 : decide ((out.length : Int) < 65536) = false := decide_eq_false (by omega)
      simp only [loopN, d4_L5, lt, dlt h1, if_true, c1, Bool.false_eq_true, if_false]
      exact hK out hg ho

theorem parse_bang (l : List Int) (h : ∃ r, l = 33 :: r) (hb : byteL l = true) : (parse (bstr l)).2 = false := by
  cases hp : (parse (bstr l)).2 with
  | false => rfl
  | true =>
    exfalso
    obtain ⟨c, r, hc, h1, h2⟩ := line_first (parse_shows hp)
    obtain ⟨r', rfl⟩ := h
    rw [bstr_data] at hc
    have : c = UInt8.ofNat (Int.toNat 33) := (List.cons.inj hc).1.symm
    rw [this] at h1
    have : (UInt8.ofNat (Int.toNat 33)).toNat = 33 := rfl
    omega

theorem text_true (inputs : List IN) (bad : List Int) (hl : inputs.length ≤ 1048576) (hd : ∀ x ∈ inputs, dI x) (hb : byteL bad = true) (hbl : bad.length ≤ 1048576) : ∃ k, d4 k (inputs, (bad, ())) = some ((true, ()), ()) := by
  refine ⟨100000000, ?_⟩
  generalize hk : 100000000 = k
  have s19 : d19 k () = some ((true, ()), ()) := by
    rw [show k = (k - 60) + 60 by omega]; exact known_true _
  simp only [d4, shr]
  refine d4_loop k (by omega) (d4_K2 k) inputs bad (by omega) hd (fun g hg hgl => ?_) inputs.length 0 k [] (by omega) (by omega) (by intro x hx; cases hx) (by simp)
  have htl := told_len g hg
  have htb := told_bytes g
  have hj := joined_eq k g (by omega) (by omega) hg (by omega)
  have hr1 := read_eq k (g.flatMap told) htb (by omega) (by omega)
  have hs1 := snl_told g [] hg
  rw [List.append_nil] at hs1
  rw [hs1, readL_told g _ 0 [] hg (by simpa using hgl)] at hr1
  have e1 : readL (snl 10 ([] : List Int)) (0 + g.length) ([] ++ g) = (g, 0, 0) := by
    rw [List.nil_append]; rfl
  rw [e1] at hr1
  have hdo : dOk g := fun x hx => by
    obtain ⟨h1, s, h2⟩ := hg x hx
    have := (line_size h1 h2).2
    omega
  have hdm : dMax g < k := by
    have : ∀ l : List IN, goodL l → dMax l ≤ 16 := by
      intro l
      induction l with
      | nil => intro _; exact Nat.zero_le _
      | cons x l ih =>
        intro hg
        obtain ⟨h1, s, h2⟩ := hg x (List.mem_cons_self ..)
        simp only [dMax, List.map_cons, List.foldr_cons]
        exact Nat.max_le.2 ⟨(line_size h1 h2).2, ih fun y hy => hg y (List.mem_cons_of_mem _ hy)⟩
    have := this g hg
    omega
  have h15 := same_eq k g (by omega) hdo hdm (by omega)
  have hwb : byteL (33 :: bad) = true := by
    unfold byteL at *
    rw [List.all_cons, hb]; rfl
  have hall : byteL (g.flatMap told ++ 33 :: bad) = true := by
    unfold byteL at *
    rw [List.all_append, htb, hwb]; rfl
  have hr2 := read_eq k (g.flatMap told ++ 33 :: bad) hall (by simp only [List.length_append, List.length_cons]; omega) (by simp only [List.length_append, List.length_cons]; omega)
  rw [snl_told g _ hg, readL_told g _ 0 [] hg (by simpa using hgl), List.nil_append] at hr2
  have hfit1 : appFits ([33] : List Int).length bad.length 1 = true := fitN (by simp only [List.length_singleton]; omega)
  have hfit2 : appFits (g.flatMap told).length (33 :: bad).length 1 = true := fitN (by simp only [List.length_cons]; omega)
  have w1 := wr1 (show g.length < 4611686018427387904 by omega)
  -- the line that is none
  obtain ⟨p, ps, hp⟩ := snl_ne (10 : Int) bad
  have hpp : snl 10 (33 :: bad) = (33 :: p) :: ps := snl_cons_ne (by decide) hp
  have hpb : byteL (33 :: p) = true := byteL_sub hwb (snl_mem 10 (33 :: bad) _ (by rw [hpp]; exact List.mem_cons_self ..))
  have hbang := parse_bang (33 :: p) ⟨p, rfl⟩ hpb
  have e2 : readL (snl 10 (33 :: bad)) (0 + g.length) g = if g.length = 65536 then ([], 1, ((g.length + 1 : Nat) : Int)) else ([], 20, ((g.length + 1 : Nat) : Int)) := by
    rw [hpp, readL, if_neg (by simp [skip]), hbang, Nat.zero_add]
    rfl
  rw [e2] at hr2
  simp only [d4_K2, lt, hj, hr1, tup3, s19, Option.bind_some, Bool.not_true, Bool.false_eq_true, if_false, bne_self_eq_false, beq_self_eq_true, Bool.and_self, if_true, h15, hfit1, hfit2, List.singleton_append, hr2, shr]
  by_cases hm : g.length = 65536
  · have z : ((g.length : Int) == 65536) = true := by rw [hm]; rfl
    rw [if_pos hm, if_pos z]
    simp only [d4_K1, lt, w1, beq_self_eq_true, if_true]
    rfl
  · have z : ((g.length : Int) == 65536) = false := by rw [beq_eq_false_iff_ne]; omega
    rw [if_neg hm, if_neg (by rw [z]; decide)]
    simp only [d4_K1, lt, w1, beq_self_eq_true, if_true]
    rfl
end Go.Proofs.YticemfakkgebhaaDoor.L
