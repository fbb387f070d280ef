import Derived.Test.YticemfakkgebhaaDoorScrR1
namespace Go.Proofs.YticemfakkgebhaaDoor.L
open Go Go.Lift
set_option linter.unusedVariables false
set_option linter.unusedSimpArgs false
set_option maxRecDepth 100000

/-! ### Lines of a text -/
def snl {α : Type} [DecidableEq α] (c : α) : List α → List (List α)
  | [] => [[]]
  | a :: l => if a = c then [] :: snl c l else match snl c l with
    | [] => [[a]]
    | p :: ps => (a :: p) :: ps
theorem snl_ne {α : Type} [DecidableEq α] (c : α) : ∀ l : List α, ∃ p ps, snl c l = p :: ps
  | [] => ⟨_, _, rfl⟩
  | a :: l => by
    obtain ⟨p, ps, h⟩ := snl_ne c l
    unfold snl
    split
    · exact ⟨_, _, rfl⟩
    · rw [h]; exact ⟨_, _, rfl⟩
theorem snl_cons_ne {α : Type} [DecidableEq α] {c a : α} (h : a ≠ c) {l p : List α} {ps : List (List α)} (hs : snl c l = p :: ps) : snl c (a :: l) = (a :: p) :: ps := by
  unfold snl; rw [if_neg h, hs]
theorem snl_cons_eq {α : Type} [DecidableEq α] (c : α) (l : List α) : snl c (c :: l) = [] :: snl c l := by
  rw [snl, if_pos rfl]
theorem snl_app {α : Type} [DecidableEq α] (c : α) : ∀ (a b : List α), c ∉ a → snl c (a ++ c :: b) = a :: snl c b
  | [], b, _ => snl_cons_eq c b
  | x :: a, b, h => by
    rw [List.mem_cons, not_or] at h
    rw [List.cons_append]
    exact snl_cons_ne (Ne.symm h.1) (snl_app c a b h.2)
theorem snl_one {α : Type} [DecidableEq α] (c : α) : ∀ (a : List α), c ∉ a → snl c a = [a]
  | [], _ => rfl
  | x :: a, h => by
    rw [List.mem_cons, not_or] at h
    exact snl_cons_ne (Ne.symm h.1) (snl_one c a h.2)
theorem splitK_snl (c : UInt8) : ∀ l : List UInt8, Lib.splitK [c] 0 (Lib.count l [c]) l = snl c l
  | [] => by
    have : Lib.count ([] : List UInt8) [c] = 0 := by rw [Lib.count_one]; rfl
    rw [this]; rfl
  | a :: l => by
    have ih := splitK_snl c l
    by_cases h : a = c
    · subst h
      have hix : Lib.index (a :: l) [a] = 0 := by rw [Lib.index]; simp [List.isPrefixOf]
      rw [Lib.count_cons_eq, Nat.add_comm 1, Lib.splitK, hix, snl_cons_eq, ← ih]
      rfl
    · rw [Lib.count_cons_ne a c l h]
      have hp : ([c] : List UInt8).isPrefixOf (a :: l) = false := by simp [List.isPrefixOf, Ne.symm h]
      have hix : Lib.index (a :: l) [c] = if Lib.index l [c] == -1 then -1 else Lib.index l [c] + 1 := by rw [Lib.index, hp]; simp
      cases hk : Lib.count l [c] with
      | zero =>
        rw [hk] at ih
        have ih : [l] = snl c l := ih
        rw [snl_cons_ne h ih.symm]; rfl
      | succ k =>
        rw [hk] at ih
        have hne : ¬ Lib.index l [c] = -1 := by
          intro e
          rw [Lib.count_miss e] at hk; cases hk
        have hge := Lib.index_ge l [c]
        obtain ⟨j, hj⟩ : ∃ j : Nat, Lib.index l [c] = j := ⟨(Lib.index l [c]).toNat, by omega⟩
        have hj1 : Lib.index (a :: l) [c] = ((j + 1 : Nat) : Int) := by
          rw [hix, hj, if_neg (by rw [beq_iff_eq]; omega)]; omega
        rw [Lib.splitK, if_neg (by rw [beq_iff_eq, hj]; omega), hj, Int.toNat_natCast] at ih
        rw [Lib.splitK, if_neg (by rw [beq_iff_eq, hj1]; omega), hj1, Int.toNat_natCast, snl_cons_ne h ih.symm]
        rfl

theorem bl_inj {a b : Int} (ha : 0 ≤ a ∧ a < 256) (hb : 0 ≤ b ∧ b < 256) (h : UInt8.ofNat a.toNat = UInt8.ofNat b.toNat) : a = b := by
  have := congrArg UInt8.toNat h
  rw [show (UInt8.ofNat a.toNat).toNat = a.toNat % 256 from rfl, show (UInt8.ofNat b.toNat).toNat = b.toNat % 256 from rfl] at this
  omega
theorem u8i_u8s {l : List Int} (h : byteL l = true) : u8i (u8s l) = l := by
  induction l with
  | nil => rfl
  | cons a l ih =>
    simp only [byteL, List.all_cons, Bool.and_eq_true, decide_eq_true_eq] at h
    have h2 : byteL l = true := h.2
    simp only [u8s, u8i, List.map_cons] at *
    rw [ih h2, show (UInt8.ofNat a.toNat).toNat = a.toNat % 256 from rfl]
    congr 1
    omega
theorem snl_map (l : List Int) (h : byteL l = true) : (snl (10 : UInt8) (u8s l)).map u8i = snl (10 : Int) l := by
  induction l with
  | nil => rfl
  | cons a l ih =>
    have hh := h
    simp only [byteL, List.all_cons, Bool.and_eq_true, decide_eq_true_eq] at h
    have ih := ih h.2
    have e : u8s (a :: l) = UInt8.ofNat a.toNat :: u8s l := rfl
    by_cases ha : a = 10
    · subst ha
      rw [e, show UInt8.ofNat (Int.toNat 10) = 10 from rfl, snl_cons_eq, snl_cons_eq, List.map_cons, ih]; rfl
    · obtain ⟨p, ps, hp⟩ := snl_ne (10 : UInt8) (u8s l)
      have hne : UInt8.ofNat a.toNat ≠ 10 := fun h' => ha (bl_inj h.1 (by omega) h')
      rw [hp, List.map_cons] at ih
      rw [e, snl_cons_ne hne hp, snl_cons_ne ha ih.symm, List.map_cons]
      have : u8i (UInt8.ofNat a.toNat :: p) = a :: u8i p := by
        simp only [u8i, List.map_cons]
        rw [show (UInt8.ofNat a.toNat).toNat = a.toNat % 256 from rfl]
        congr 1; omega
      rw [this]
theorem split_lines (k : Nat) (text : List Int) (hb : byteL text = true) (hl : text.length < 4294967281) : d35 k (text, ((10 : Int) :: ([] : List Int), ())) = some ((snl 10 text, ()), ()) := by
  simp only [d35]
  have h1 : byteL [10] = true := by decide
  have h2 : ((10 : Int) :: ([] : List Int)).length = 1 := rfl
  rw [if_pos ⟨hb, h1, hl, h2⟩]
  have e : u8s ((10 : Int) :: ([] : List Int)) = [10] := rfl
  rw [e, splitK_snl, snl_map text hb]

/-! ### Read -/
def skip (p : List Int) : Bool := p.isEmpty || p.head? == some 35
def readL : List (List Int) → Nat → List IN → List IN × Int × Int
  | [], _, out => (out, 0, 0)
  | p :: ps, i, out => if skip p = true then readL ps (i + 1) out else if out.length = 65536 then ([], 1, ((i + 1 : Nat) : Int)) else
      if (parse (bstr p)).2 = true then readL ps (i + 1) (out ++ [(parse (bstr p)).1]) else ([], 20, ((i + 1 : Nat) : Int))
def tup3 (r : List IN × Int × Int) : (List IN × Int × Int × Unit) × Unit := ((r.1, (r.2.1, (r.2.2, ()))), ())
theorem bstr_size (l : List Int) : (bstr l).size = l.length := by
  have : ∀ (l : List Int) (r : ByteArray), (l.foldl (fun r n => r.push (UInt8.ofNat n.toNat)) r).size = r.size + l.length := by
    intro l
    induction l with
    | nil => intro r; rfl
    | cons a l ih =>
      intro r
      rw [List.foldl_cons, ih, ByteArray.size_push, List.length_cons]; omega
  have := this l ByteArray.empty
  unfold bstr
  rw [this]
  show 0 + l.length = _
  omega
theorem bstr_data (l : List Int) : (bstr l).data.toList = u8s l := by
  have : ∀ (l : List Int) (r : ByteArray), (l.foldl (fun r n => r.push (UInt8.ofNat n.toNat)) r).data.toList = r.data.toList ++ u8s l := by
    intro l
    induction l with
    | nil => intro r; simp [u8s]
    | cons a l ih =>
      intro r
      rw [List.foldl_cons, ih]
      simp [u8s, ByteArray.push]
  have := this l ByteArray.empty
  unfold bstr
  rw [this]
  rfl
theorem sbytes_bstr {l : List Int} (h : byteL l = true) : sbytes (bstr l) = l := by
  unfold sbytes
  rw [bstr_data]
  exact u8i_u8s h

theorem d13_loop (k0 : Nat) (hk0 : 40 < k0) (ps : List (List Int)) (hl : ps.length < 4611686018427387904) (hp : ∀ p ∈ ps, p.length < 4294967281) : ∀ n i k (out : List IN), i + n = ps.length → n < k → out.length ≤ 65536 →
    loopN (d13_L3 k0 d13_K1) k ((out, (ps, ())), ((i : Int), ((ps.length : Int), ()))) = some (tup3 (readL (ps.drop i) i out)) := by
  intro n
  induction n with
  | zero =>
    intro i k out hi hk ho
    obtain ⟨k, rfl⟩ : ∃ k', k = k' + 1 := ⟨k - 1, by omega⟩
    simp only [loopN, d13_L3, lt, dnlt (show ps.length ≤ i by omega), Bool.false_eq_true, if_false]
    rw [List.drop_eq_nil_of_le (by omega)]
    rfl
  | succ n ih =>
    intro i k out hi hk ho
    obtain ⟨k, rfl⟩ : ∃ k', k = k' + 1 := ⟨k - 1, by omega⟩
    have h1 : i < ps.length := by omega
    have e1 : ∀ d, ps.getD i d = ps[i] := by simp [h1]
    rw [List.drop_eq_getElem_cons h1]
    have hpl := hp ps[i] (List.getElem_mem _)
    have hwr := wr1 (show i < 4611686018427387904 by omega)
    generalize hpp : ps[i] = p at *
    have hs : ∀ d, (if ((p.length : Int) == 0) = true then true else (p.getD (Int.toNat 0) d == 35)) = skip p := by
      intro d
      unfold skip
      cases p with
      | nil => rfl
      | cons a p =>
        have z : (((a :: p).length : Int) == 0) = false := by rw [beq_eq_false_iff_ne]; simp; omega
        rw [z]
        simp only [Bool.false_eq_true, if_false, List.isEmpty_cons, Bool.false_or, List.head?_cons]
        rw [show Int.toNat 0 = 0 from rfl, List.getD_cons_zero]
        by_cases h : a = 35 <;> simp [h]
    have hg : (!(((p.length : Int) == 0) == false) || (decide ((0 : Int) ≤ 0) && decide ((0 : Int) < (p.length : Int)))) = true := by
      cases p with
      | nil => rfl
      | cons a p =>
        have z : decide ((0 : Int) < ((a :: p).length : Int)) = true := decide_eq_true (by simp)
        rw [z]; simp
    unfold readL
    simp only [loopN, d13_L3, lt, shr, dlt h1, dge0, Bool.and_self, if_true, Int.toNat_natCast, e1, h1, decide_true, Bool.and_true, hg, hs]
    by_cases hsk : skip p = true
    · rw [if_pos hsk, if_pos hsk]
      simp only [d13_K2, hwr]
      exact ih (i + 1) k out (by omega) (by omega) ho
    · rw [if_neg hsk, if_neg hsk]
      by_cases hm : out.length = 65536
      · have z : ((out.length : Int) == 65536) = true := by rw [hm]; rfl
        rw [if_pos z, if_pos hm]
        simp only [hwr]; rfl
      · have z : ((out.length : Int) == 65536) = false := by rw [beq_eq_false_iff_ne]; omega
        have f1 : appFits out.length 1 48 = true := fit1 (by omega) (by omega)
        rw [if_neg (by rw [z]; decide), if_neg hm]
        simp only [line_eq k0 hk0 (bstr p) (by rw [bstr_size]; exact hpl), Option.bind_some]
        by_cases hx : (parse (bstr p)).2 = true
        · rw [if_pos hx]
          simp only [hx, Bool.not_true, Bool.false_eq_true, if_false, List.length_singleton, f1, if_true, d13_K2, hwr]
          exact ih (i + 1) k (out ++ [(parse (bstr p)).1]) (by omega) (by omega) (by simp; omega)
        · rw [if_neg hx]
          have hx' : (parse (bstr p)).2 = false := by simpa using hx
          simp only [hx', Bool.not_false, if_true, hwr]; rfl

theorem snl_bounds {α : Type} [DecidableEq α] (c : α) : ∀ l : List α, (snl c l).length ≤ l.length + 1 ∧ ∀ p ∈ snl c l, p.length ≤ l.length
  | [] => ⟨Nat.le_refl _, by simp [snl]⟩
  | a :: l => by
    have ih := snl_bounds c l
    by_cases h : a = c
    · subst h
      rw [snl_cons_eq]
      refine ⟨by simp; omega, fun p hp => ?_⟩
      rcases List.mem_cons.1 hp with rfl | hp
      · simp
      · have := ih.2 p hp; simp; omega
    · obtain ⟨p, ps, hp⟩ := snl_ne c l
      rw [hp] at ih
      rw [snl_cons_ne h hp]
      refine ⟨by have := ih.1; simp at *; omega, fun q hq => ?_⟩
      rcases List.mem_cons.1 hq with rfl | hq
      · have := ih.2 p (List.mem_cons_self ..); simp; omega
      · have := ih.2 q (List.mem_cons_of_mem _ hq); simp; omega
theorem read_eq (k : Nat) (text : List Int) (hb : byteL text = true) (hl : text.length < 4294967280) (hk : text.length + 50 < k) : d13 k (text, ()) = some (tup3 (readL (snl 10 text) 0 [])) := by
  have hs := split_lines k text hb (by omega)
  have hbd := snl_bounds 10 text
  simp only [d13, lt, shr, List.isEmpty_cons, Bool.not_false, if_true, hs, Option.bind_some]
  exact d13_loop k (by omega) (snl 10 text) (by omega) (fun p hp => by have := hbd.2 p hp; omega) (snl 10 text).length 0 k [] (by omega) (by omega) (by simp)
end Go.Proofs.YticemfakkgebhaaDoor.L
