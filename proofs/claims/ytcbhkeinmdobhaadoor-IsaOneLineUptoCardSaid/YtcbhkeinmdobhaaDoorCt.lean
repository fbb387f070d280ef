import Derived.Lib.SplitLaws
import Derived.Lib.Join
namespace Go.Proofs.YtcbhkeinmdobhaaDoor
set_option linter.unusedVariables false
set_option linter.unusedSimpArgs false

/-- what stands between blanks, letter by letter -/
def cut32 : List UInt8 → List (List UInt8)
  | [] => [[]]
  | c :: r => if c = 32 then [] :: cut32 r else (c :: (cut32 r).headD []) :: (cut32 r).tail
theorem cut32_ne (l : List UInt8) : cut32 l ≠ [] := by
  cases l with
  | nil => simp [cut32]
  | cons c r => unfold cut32; split <;> simp
theorem cut32_cons (l : List UInt8) : cut32 l = (cut32 l).headD [] :: (cut32 l).tail := by
  cases h : cut32 l with
  | nil => exact absurd h (cut32_ne l)
  | cons x r => rfl
theorem cut32_clean : ∀ (w l : List UInt8), (∀ c ∈ w, c ≠ 32) → cut32 (w ++ l) = (w ++ (cut32 l).headD []) :: (cut32 l).tail
  | [], l, _ => by rw [List.nil_append, List.nil_append]; exact cut32_cons l
  | c :: r, l, h => by
    have hc : ¬ c = 32 := h c (by simp)
    have ih := cut32_clean r l (fun x hx => h x (by simp [hx]))
    rw [List.cons_append, cut32, if_neg hc, ih]
    rfl
theorem cut32_word (w : List UInt8) (h : ∀ c ∈ w, c ≠ 32) : cut32 w = [w] := by
  have := cut32_clean w [] h
  rw [List.append_nil] at this
  rw [this]
  simp [cut32]
theorem cut32_join : ∀ (ws : List (List UInt8)) (w : List UInt8), (∀ x ∈ w :: ws, ∀ c ∈ x, c ≠ 32) → cut32 (Lib.join (w :: ws) [32]) = w :: ws
  | [], w, h => by rw [Lib.join_one]; exact cut32_word w (h w (by simp))
  | x :: r, w, h => by
    have ih := cut32_join r x (fun y hy => h y (List.mem_cons_of_mem _ hy))
    have e : Lib.join (w :: x :: r) [32] = w ++ 32 :: Lib.join (x :: r) [32] := by
      rw [Lib.join_cons, Lib.join_cons]
      simp [Lib.joinTail]
    rw [e, cut32_clean w _ (h w (by simp)), cut32, if_pos rfl, ih]
    simp
theorem cut32_head (r : List UInt8) : (cut32 r).headD [] ∈ cut32 r := by
  cases h : cut32 r with
  | nil => exact absurd h (cut32_ne r)
  | cons x t => simp
theorem cut32_mem_len : ∀ (l : List UInt8), ∀ x ∈ cut32 l, x.length ≤ l.length
  | [], x, h => by simp [cut32] at h; subst h; simp
  | c :: r, x, h => by
    have ih := cut32_mem_len r
    unfold cut32 at h
    split at h
    · rcases List.mem_cons.1 h with rfl | h
      · simp
      · have := ih x h; simp; omega
    · rcases List.mem_cons.1 h with rfl | h
      · have hm : (cut32 r).headD [] ∈ cut32 r := cut32_head r
        have := ih _ hm
        rw [List.length_cons, List.length_cons]; omega
      · have := ih x (List.mem_of_mem_tail h); simp; omega
theorem cut32_len : ∀ (l : List UInt8), (cut32 l).length ≤ l.length + 1
  | [] => by simp [cut32]
  | c :: r => by
    have ih := cut32_len r
    unfold cut32
    split
    · simp; omega
    · have := cut32_cons r
      have h2 : (cut32 r).length = (cut32 r).tail.length + 1 := by conv => lhs; rw [this]
                                                                   simp
      simp; omega
theorem cut32_len_pos (l : List UInt8) : 0 < (cut32 l).length := List.length_pos_iff.2 (cut32_ne l)
theorem index32 : ∀ (l : List UInt8), (32 ∉ l ∧ Lib.index l [32] = -1) ∨ (∃ i : Nat, i < l.length ∧ Lib.index l [32] = i ∧ (∀ c ∈ l.take i, c ≠ 32) ∧ l = l.take i ++ 32 :: l.drop (i + 1))
  | [] => .inl ⟨by simp, by simp [Lib.index]⟩
  | c :: r => by
    by_cases hc : c = 32
    · subst hc
      exact .inr ⟨0, by simp, by simp [Lib.index, List.isPrefixOf], by simp, rfl⟩
    · have hp : ([32] : List UInt8).isPrefixOf (c :: r) = false := by simp [List.isPrefixOf, Ne.symm hc]
      rcases index32 r with ⟨h1, h2⟩ | ⟨i, h1, h2, h3, h4⟩
      · exact .inl ⟨by simp [h1, Ne.symm hc], by rw [Lib.index, hp]; simp [h2]⟩
      · refine .inr ⟨i + 1, by simp; omega, ?_, ?_, ?_⟩
        · rw [Lib.index, hp, h2]; simp
        · intro x hx
          rw [List.take_succ_cons] at hx
          rcases List.mem_cons.1 hx with rfl | hx
          · exact hc
          · exact h3 x hx
        · rw [List.take_succ_cons, List.drop_succ_cons, List.cons_append, ← h4]
theorem split_cut : ∀ (n : Nat) (l : List UInt8), l.length ≤ n → Lib.splitK [32] 0 (Lib.count l [32]) l = cut32 l
  | n, l, hn => by
    rw [Lib.count_one]
    rcases index32 l with ⟨h1, h2⟩ | ⟨i, h1, h2, h3, h4⟩
    · have : l.count 32 = 0 := List.count_eq_zero.2 h1
      rw [this, Lib.splitK, cut32_word l (fun c hc e => h1 (e ▸ hc))]
    · have hcnt : l.count 32 = (l.drop (i + 1)).count 32 + 1 := by
        conv => lhs; rw [h4]
        rw [List.count_append, List.count_cons_self]
        have : (l.take i).count 32 = 0 := List.count_eq_zero.2 (fun hm => h3 32 hm rfl)
        omega
      rw [hcnt, Lib.splitK]
      have hne : ¬ (Lib.index l [32] == -1) = true := by rw [h2]; simp
      rw [if_neg hne, h2]
      have e1 : ((i : Int).toNat + 0) = i := by omega
      have e2 : ((i : Int).toNat + ([32] : List UInt8).length) = i + 1 := by simp
      rw [e1, e2]
      cases n with
      | zero => omega
      | succ n =>
        have ih := split_cut n (l.drop (i + 1)) (by rw [List.length_drop]; omega)
        rw [Lib.count_one] at ih
        rw [ih]
        conv => rhs; rw [h4]
        rw [cut32_clean _ _ h3, cut32, if_pos rfl]
        simp
end Go.Proofs.YtcbhkeinmdobhaaDoor
