import Derived.Lib.SplitLaws
import Derived.Lib.Join
import Derived.Lib.ParseIntBTie
import Derived.Lib.ParseIntBCases
import Derived.Lib.ItoaNum
import Derived.Lib.Strings
namespace Go.Proofs.YtcbhkeinmdobhaaDoor
set_option linter.unusedVariables false
set_option linter.unusedSimpArgs false

/-- what stands between blanks, letter by letter -/
def cut32 : List UInt8 → List (List UInt8)
  | [] => [[]]
  | c :: r => if c = 32 then [] :: cut32 r else (c :: (cut32 r).headD []) :: (cut32 r).tail
theorem cut32_ne (l : List UInt8) : cut32 l ≠ [] := by
  cases l with
  | nil => simp [cut32]
  | cons c r => unfold cut32; split <;> simp
theorem cut32_cons (l : List UInt8) : cut32 l = (cut32 l).headD [] :: (cut32 l).tail := by
  cases h : cut32 l with
  | nil => exact absurd h (cut32_ne l)
  | cons x r => rfl
theorem cut32_clean : ∀ (w l : List UInt8), (∀ c ∈ w, c ≠ 32) → cut32 (w ++ l) = (w ++ (cut32 l).headD []) :: (cut32 l).tail
  | [], l, _ => by rw [List.nil_append, List.nil_append]; exact cut32_cons l
  | c :: r, l, h => by
    have hc : ¬ c = 32 := h c (by simp)
    have ih := cut32_clean r l (fun x hx => h x (by simp [hx]))
    rw [List.cons_append, cut32, if_neg hc, ih]
    rfl
theorem cut32_word (w : List UInt8) (h : ∀ c ∈ w, c ≠ 32) : cut32 w = [w] := by
  have := cut32_clean w [] h
  rw [List.append_nil] at this
  rw [this]
  simp [cut32]
theorem cut32_join : ∀ (ws : List (List UInt8)) (w : List UInt8), (∀ x ∈ w :: ws, ∀ c ∈ x, c ≠ 32) → cut32 (Lib.join (w :: ws) [32]) = w :: ws
  | [], w, h => by rw [Lib.join_one]; exact cut32_word w (h w (by simp))
  | x :: r, w, h => by
    have ih := cut32_join r x (fun y hy => h y (List.mem_cons_of_mem _ hy))
    have e : Lib.join (w :: x :: r) [32] = w ++ 32 :: Lib.join (x :: r) [32] := by
      rw [Lib.join_cons, Lib.join_cons]
      simp [Lib.joinTail]
    rw [e, cut32_clean w _ (h w (by simp)), cut32, if_pos rfl, ih]
    simp
theorem cut32_head (r : List UInt8) : (cut32 r).headD [] ∈ cut32 r := by
  cases h : cut32 r with
  | nil => exact absurd h (cut32_ne r)
  | cons x t => simp
theorem cut32_mem_len : ∀ (l : List UInt8), ∀ x ∈ cut32 l, x.length ≤ l.length
  | [], x, h => by simp [cut32] at h; subst h; simp
  | c :: r, x, h => by
    have ih := cut32_mem_len r
    unfold cut32 at h
    split at h
    · rcases List.mem_cons.1 h with rfl | h
      · simp
      · have := ih x h; simp; omega
    · rcases List.mem_cons.1 h with rfl | h
      · have hm : (cut32 r).headD [] ∈ cut32 r := cut32_head r
        have := ih _ hm
        rw [List.length_cons, List.length_cons]; omega
      · have := ih x (List.mem_of_mem_tail h); simp; omega
theorem cut32_len : ∀ (l : List UInt8), (cut32 l).length ≤ l.length + 1
  | [] => by simp [cut32]
  | c :: r => by
    have ih := cut32_len r
    unfold cut32
    split
    · simp; omega
    · have := cut32_cons r
      have h2 : (cut32 r).length = (cut32 r).tail.length + 1 := by conv => lhs; rw [this]
                                                                   simp
      simp; omega
theorem cut32_len_pos (l : List UInt8) : 0 < (cut32 l).length := List.length_pos_iff.2 (cut32_ne l)
theorem index32 : ∀ (l : List UInt8), (32 ∉ l ∧ Lib.index l [32] = -1) ∨ (∃ i : Nat, i < l.length ∧ Lib.index l [32] = i ∧ (∀ c ∈ l.take i, c ≠ 32) ∧ l = l.take i ++ 32 :: l.drop (i + 1))
  | [] => .inl ⟨by simp, by simp [Lib.index]⟩
  | c :: r => by
    by_cases hc : c = 32
    · subst hc
      exact .inr ⟨0, by simp, by simp [Lib.index, List.isPrefixOf], by simp, rfl⟩
    · have hp : ([32] : List UInt8).isPrefixOf (c :: r) = false := by simp [List.isPrefixOf, Ne.symm hc]
      rcases index32 r with ⟨h1, h2⟩ | ⟨i, h1, h2, h3, h4⟩
      · exact .inl ⟨by simp [h1, Ne.symm hc], by rw [Lib.index, hp]; simp [h2]⟩
      · refine .inr ⟨i + 1, by simp; omega, ?_, ?_, ?_⟩
        · rw [Lib.index, hp, h2]; simp
        · intro x hx
          rw [List.take_succ_cons] at hx
          rcases List.mem_cons.1 hx with rfl | hx
          · exact hc
          · exact h3 x hx
        · rw [List.take_succ_cons, List.drop_succ_cons, List.cons_append, ← h4]
theorem split_cut : ∀ (n : Nat) (l : List UInt8), l.length ≤ n → Lib.splitK [32] 0 (Lib.count l [32]) l = cut32 l
  | n, l, hn => by
    rw [Lib.count_one]
    rcases index32 l with ⟨h1, h2⟩ | ⟨i, h1, h2, h3, h4⟩
    · have : l.count 32 = 0 := List.count_eq_zero.2 h1
      rw [this, Lib.splitK, cut32_word l (fun c hc e => h1 (e ▸ hc))]
    · have hcnt : l.count 32 = (l.drop (i + 1)).count 32 + 1 := by
        conv => lhs; rw [h4]
        rw [List.count_append, List.count_cons_self]
        have : (l.take i).count 32 = 0 := List.count_eq_zero.2 (fun hm => h3 32 hm rfl)
        omega
      rw [hcnt, Lib.splitK]
      have hne : ¬ (Lib.index l [32] == -1) = true := by rw [h2]; simp
      rw [if_neg hne, h2]
      have e1 : ((i : Int).toNat + 0) = i := by omega
      have e2 : ((i : Int).toNat + ([32] : List UInt8).length) = i + 1 := by simp
      rw [e1, e2]
      cases n with
      | zero => omega
      | succ n =>
        have ih := split_cut n (l.drop (i + 1)) (by rw [List.length_drop]; omega)
        rw [Lib.count_one] at ih
        rw [ih]
        conv => rhs; rw [h4]
        rw [cut32_clean _ _ h3, cut32, if_pos rfl]
        simp
end Go.Proofs.YtcbhkeinmdobhaaDoor

namespace Go.Proofs.YtcbhkeinmdobhaaDoor
set_option linter.unusedVariables false
set_option linter.unusedSimpArgs false

theorem digit_toNat {u : Nat} (h : u < 10) : (UInt8.ofNat (48 + u)).toNat = 48 + u := by
  rw [UInt8.toNat_ofNat']; omega
theorem parseM_append (M : Nat) : ∀ (l1 : List UInt8) (acc : Nat) (l2 : List UInt8) (a : Nat), Lib.parseUintM M acc l1 = .ok a → Lib.parseUintM M acc (l1 ++ l2) = Lib.parseUintM M a l2
  | [], acc, l2, a, h => by
    simp only [Lib.parseUintM] at h
    injection h with h
    rw [h]; rfl
  | c :: r, acc, l2, a, h => by
    rw [List.cons_append]
    have e1 : ∀ t, (48 ≤ c.toNat ∧ c.toNat ≤ 57) → Lib.parseUintM M acc (c :: t) = (if 1844674407370955162 ≤ acc then .range else if M < acc * 10 + (c.toNat - 48) then .range else Lib.parseUintM M (acc * 10 + (c.toNat - 48)) t) := fun t hc => by
      show (if 48 ≤ c.toNat ∧ c.toNat ≤ 57 then _ else _) = _
      rw [if_pos hc]
    by_cases hc : 48 ≤ c.toNat ∧ c.toNat ≤ 57
    · rw [e1 _ hc] at h ⊢
      split at h
      · cases h
      · rename_i h2
        rw [if_neg h2]
        split at h
        · cases h
        · rename_i h3
          rw [if_neg h3]
          exact parseM_append M r _ l2 a h
    · exfalso
      have h' : (if 48 ≤ c.toNat ∧ c.toNat ≤ 57 then _ else _) = Lib.NumEnd.ok a := h
      rw [if_neg hc] at h'
      cases h'
theorem parseM_dec (M : Nat) (hM : M < 9223372036854775808) : ∀ (u : Nat), u ≤ M → Lib.parseUintM M 0 (Lib.decDigits u) = .ok u := by
  intro u
  induction u using Nat.strongRecOn with
  | ind u ih =>
    intro hu
    by_cases h : u < 10
    · rw [Lib.decDigits_one h]
      unfold Lib.parseUintM
      rw [digit_toNat h, if_pos (by omega), if_neg (by omega), if_neg (by omega)]
      simp only [Lib.parseUintM]
      congr 1; omega
    · rw [Lib.decDigits, dif_neg h]
      have hd : u % 10 < 10 := by omega
      rw [parseM_append M _ 0 _ (u / 10) (ih (u / 10) (by omega) (by omega))]
      unfold Lib.parseUintM
      rw [digit_toNat hd, if_pos (by omega), if_neg (by omega), if_neg (by omega)]
      simp only [Lib.parseUintM]
      congr 1; omega
theorem dec_ne (u : Nat) : Lib.decDigits u ≠ [] := by
  rw [Lib.decDigits]; split <;> simp
theorem dec_letters : ∀ (u : Nat), ∀ c ∈ Lib.decDigits u, 48 ≤ c.toNat ∧ c.toNat ≤ 57 := by
  intro u
  induction u using Nat.strongRecOn with
  | ind u ih =>
    intro c hc
    by_cases h : u < 10
    · rw [Lib.decDigits_one h] at hc
      obtain rfl := List.mem_singleton.1 hc
      rw [digit_toNat h]; omega
    · rw [Lib.decDigits, dif_neg h] at hc
      rcases List.mem_append.1 hc with hc | hc
      · exact ih (u / 10) (by omega) c hc
      · obtain rfl := List.mem_singleton.1 hc
        rw [digit_toNat (by omega)]; omega
theorem parseB_dec (B u : Nat) (hB : 2 ^ B - 1 < 9223372036854775808) (hu : u ≤ 2 ^ B - 1) : Lib.parseUintB B (Lib.decDigits u) = .ok u := by
  unfold Lib.parseUintB
  rw [if_neg (dec_ne u)]
  exact parseM_dec _ hB u hu
theorem parseI_itoa (n : Int) (h0 : -2147483648 ≤ n) (h1 : n ≤ 2147483647) : Lib.parseIntB 32 (Lib.itoa n) = .ok n := by
  unfold Lib.itoa
  split
  · rename_i hn
    have e := parseB_dec 32 n.natAbs (by decide) (by omega)
    rw [Lib.parseIntB_minus, e]
    unfold Lib.signedC
    simp only
    rw [if_neg (by omega)]
    congr 1
    omega
  · rename_i hn
    have e := parseB_dec 32 n.toNat (by decide) (by omega)
    rcases hd : Lib.decDigits n.toNat with _ | ⟨c, r⟩
    · exact absurd hd (dec_ne _)
    · have hc := dec_letters n.toNat c (by rw [hd]; simp)
      rw [Lib.parseIntB_plain 32 c r (by omega) (by omega), ← hd, e]
      unfold Lib.signlessC
      simp only
      rw [if_neg (by omega)]
      congr 1
      omega

/-- the document's value of a word: its digits among the first eleven letters -/
def vstep (n : Int) (c : UInt8) : Int := if 48 ≤ c.toNat ∧ c.toNat ≤ 57 then 10 * n + ((c.toNat : Int) - 48) else n
def valN (l : List UInt8) : Int := (l.take 11).foldl vstep 0
def valS (l : List UInt8) : Int := if l.head? = some 45 then -valN l else valN l
theorem vfold_dec : ∀ (u : Nat), (Lib.decDigits u).foldl vstep 0 = (u : Int) := by
  intro u
  induction u using Nat.strongRecOn with
  | ind u ih =>
    by_cases h : u < 10
    · rw [Lib.decDigits_one h]
      simp only [List.foldl_cons, List.foldl_nil, vstep]
      rw [digit_toNat h, if_pos (by omega)]; omega
    · rw [Lib.decDigits, dif_neg h, List.foldl_append, ih (u / 10) (by omega)]
      simp only [List.foldl_cons, List.foldl_nil, vstep]
      rw [digit_toNat (by omega), if_pos (by omega)]; omega
theorem dec_len (u : Nat) (h : u ≤ 4294967295) : (Lib.decDigits u).length ≤ 10 := by
  rw [Lib.decDigits_length]
  have h1 : Lib.nDigits u ≤ 10 := by
    have hh : ∀ (k u : Nat), u < 10 ^ (k + 1) → Lib.nDigits u ≤ k + 1 := by
      intro k
      induction k with
      | zero => intro u hu; rw [Lib.nDigits_small (by simpa using hu)]; omega
      | succ k ih =>
        intro u hu
        by_cases h10 : u < 10
        · rw [Lib.nDigits_small h10]; omega
        · rw [Lib.nDigits, dif_neg h10]
          have := ih (u / 10) (by rw [Nat.pow_succ] at hu; omega)
          omega
    exact hh 9 u (by omega)
  exact h1
theorem val_reg (a : Nat) (h : a < 256) : valS (114 :: Lib.decDigits a) = a := by
  unfold valS valN
  have hl := dec_len a (by omega)
  rw [List.take_of_length_le (by simp; omega)]
  rw [if_neg (by simp)]
  rw [List.foldl_cons]
  have : vstep 0 114 = 0 := by decide
  rw [this, vfold_dec]
theorem val_num (n : Int) (h0 : -2147483648 ≤ n) (h1 : n ≤ 2147483647) : valS (Lib.itoa n) = n := by
  unfold Lib.itoa
  split
  · rename_i hn
    have hl := dec_len n.natAbs (by omega)
    unfold valS valN
    rw [if_pos (by simp), List.take_of_length_le (by simp; omega), List.foldl_cons]
    have : vstep 0 45 = 0 := by decide
    rw [this, vfold_dec]; omega
  · rename_i hn
    have hl := dec_len n.toNat (by omega)
    unfold valS valN
    rw [List.take_of_length_le (by omega), vfold_dec]
    rw [if_neg]
    · omega
    · intro hh
      rcases hd : Lib.decDigits n.toNat with _ | ⟨c, r⟩
      · exact absurd hd (dec_ne _)
      · rw [hd] at hh
        have hc := dec_letters n.toNat c (by rw [hd]; simp)
        simp at hh
        subst hh
        simp at hc
theorem trim_reg (a : Nat) : Lib.trimPrefix (114 :: Lib.decDigits a) [114] = Lib.decDigits a := by
  unfold Lib.trimPrefix
  have : Lib.hasPrefix (114 :: Lib.decDigits a) [114] = true := by simp [Lib.hasPrefix, List.isPrefixOf]
  rw [if_pos this]; rfl
theorem vstep_in (n : Int) (c : UInt8) (k : Int) (h0 : 0 ≤ n) (h1 : n < k) : 0 ≤ vstep n c ∧ vstep n c < 10 * k := by
  unfold vstep; split <;> omega
end Go.Proofs.YtcbhkeinmdobhaaDoor
