import Derived.Test.YtjnnmgjpnbfhlaaGreatDoorCeO
namespace Go.Proofs.YtjnnmgjpnbfhlaaGreatDoor.L
open Go Go.Lift
set_option linter.unusedVariables false
set_option linter.unusedSimpArgs false
set_option maxRecDepth 100000

/-! ### lists of numbers -/
theorem listN_ge (p : CH → Bool) : ∀ (cs : List CH) (n : Nat) (t : Int), t ∈ listN p n cs → (n : Int) + 1 ≤ t := by
  intro cs
  induction cs with
  | nil => intro n t h; cases h
  | cons c cs ih =>
    intro n t h
    rw [listN, List.mem_append] at h
    rcases h with h | h
    · cases hp : p c <;> rw [hp] at h <;> simp at h; omega
    · have := ih (n + 1) t h; omega
theorem listN_lt (p : CH → Bool) : ∀ (cs : List CH) (n : Nat), (listN p n cs).Pairwise (· < ·) := by
  intro cs
  induction cs with
  | nil => intro n; exact List.Pairwise.nil
  | cons c cs ih =>
    intro n
    rw [listN]
    cases hp : p c with
    | false => simpa using ih (n + 1)
    | true =>
      simp only [if_true, List.singleton_append, List.pairwise_cons]
      refine ⟨fun t ht => ?_, ih (n + 1)⟩
      have := listN_ge p cs (n + 1) t ht
      omega
theorem listN_len (p : CH → Bool) : ∀ (cs : List CH) (n : Nat), (listN p n cs).length ≤ cs.length := by
  intro cs
  induction cs with
  | nil => intro n; exact Nat.le_refl _
  | cons c cs ih =>
    intro n
    rw [listN, List.length_append, List.length_cons]
    have := ih (n + 1)
    cases hp : p c <;> simp <;> omega
theorem listN_has (p : CH → Bool) : ∀ (cs : List CH) (n j : Nat) (h : j < cs.length), (listN p n cs).any (fun t => t == ((n + j + 1 : Nat) : Int)) = p cs[j] := by
  intro cs
  induction cs with
  | nil => intro n j h; exact absurd h (Nat.not_lt_zero _)
  | cons c cs ih =>
    intro n j h
    rw [listN, List.any_append]
    cases j with
    | zero =>
      have : (listN p (n + 1) cs).any (fun t => t == ((n + 0 + 1 : Nat) : Int)) = false := by
        rw [List.any_eq_false]
        intro t ht e
        have := listN_ge p cs (n + 1) t ht
        have e : t = ((n + 0 + 1 : Nat) : Int) := by simpa using e
        omega
      rw [this, Bool.or_false]
      cases hp : p c <;> simp [hp]
    | succ j =>
      have e1 : ([((n + 1 : Nat) : Int)]).any (fun t => t == ((n + (j + 1) + 1 : Nat) : Int)) = false := by
        rw [List.any_eq_false]
        intro t ht e
        obtain rfl := List.mem_singleton.1 ht
        have e : ((n + 1 : Nat) : Int) = ((n + (j + 1) + 1 : Nat) : Int) := by simpa using e
        omega
      have := ih (n + 1) j (by simpa using h)
      rw [show n + 1 + j + 1 = n + (j + 1) + 1 by omega] at this
      rw [this]
      cases hp : p c
      · simp
      · simp only [if_true, e1, Bool.false_or, List.getElem_cons_succ]
theorem listN_none {p : CH → Bool} (h : ∀ c, p c = false) : ∀ (cs : List CH) (n : Nat), listN p n cs = [] := by
  intro cs
  induction cs with
  | nil => intro n; rfl
  | cons c cs ih => intro n; rw [listN, h c, ih (n + 1)]; rfl
theorem findN_at (p : CH → Bool) : ∀ (cs : List CH) (n j : Nat) (h : j < cs.length), p cs[j] = true → (∀ i, (hi : i < j) → p (cs[i]'(by omega)) = false) → findN p n cs = ((n + j + 1 : Nat) : Int) := by
  intro cs
  induction cs with
  | nil => intro n j h; exact absurd h (Nat.not_lt_zero _)
  | cons c cs ih =>
    intro n j h h1 h2
    rw [findN]
    cases j with
    | zero =>
      have h1 : p c = true := h1
      rw [h1]; simp
    | succ j =>
      have h0 : p c = false := h2 0 (by omega)
      rw [h0]
      have := ih (n + 1) j (by simpa using h) (by simpa using h1) (fun i hi => by simpa using h2 (i + 1) (by omega))
      rw [show n + (j + 1) + 1 = n + 1 + j + 1 by omega]
      simpa using this

/-! ### sorted, and each once -/
theorem bang {l : List Int} {i : Nat} (h : i < l.length) : l.toArray[i]! = l[i] := by simp [h]
theorem compact_mem (l : List Int) : ∀ (j : Nat) (h : j < l.length), l[j] ∈ Lib.compact l := by
  intro j
  induction j with
  | zero =>
    intro h
    unfold Lib.compact Lib.compactUpTo
    exact List.mem_map.2 ⟨0, List.mem_filter.2 ⟨List.mem_range.2 h, by simp [Lib.keeps]⟩, bang h⟩
  | succ j ih =>
    intro h
    by_cases e : l[j + 1] = l[j]
    · rw [e]; exact ih (by omega)
    · unfold Lib.compact Lib.compactUpTo
      refine List.mem_map.2 ⟨j + 1, List.mem_filter.2 ⟨List.mem_range.2 h, ?_⟩, bang h⟩
      simp only [Lib.keeps, Nat.add_sub_cancel, bang h, bang (show j < l.length by omega)]
      simp [e, fun h => e (Eq.symm h)]
theorem mem_of_compact {l : List Int} {t : Int} (h : t ∈ Lib.compact l) : t ∈ l := by
  unfold Lib.compact Lib.compactUpTo at h
  obtain ⟨j, hj, rfl⟩ := List.mem_map.1 h
  have hj := List.mem_range.1 (List.mem_filter.1 hj).1
  rw [bang hj]
  exact List.getElem_mem hj
theorem compact_any (l : List Int) (t : Int) : (Lib.compact l).any (fun u => u == t) = l.any (fun u => u == t) := by
  rw [Bool.eq_iff_iff, List.any_eq_true, List.any_eq_true]
  constructor
  · rintro ⟨u, hu, e⟩; exact ⟨u, mem_of_compact hu, e⟩
  · rintro ⟨u, hu, e⟩
    obtain ⟨j, hj, rfl⟩ := List.mem_iff_getElem.1 hu
    exact ⟨_, compact_mem l j hj, e⟩
theorem compact_lt {l : List Int} (hs : l.Pairwise (· ≤ ·)) : (Lib.compact l).Pairwise (· < ·) := by
  unfold Lib.compact Lib.compactUpTo
  rw [List.pairwise_map]
  have hr : ((List.range l.length).filter (Lib.keeps l.toArray)).Pairwise (· < ·) := List.Pairwise.filter _ List.pairwise_lt_range
  refine hr.imp_of_mem ?_
  intro a b ha hb hab
  obtain ⟨hb1, hb2⟩ := List.mem_filter.1 hb
  have hb1 := List.mem_range.1 hb1
  have ha1 : a < l.length := by omega
  rw [bang ha1, bang hb1]
  have hle : ∀ i j, (hi : i < l.length) → (hj : j < l.length) → i ≤ j → l[i] ≤ l[j] := by
    intro i j hi hj hij
    rcases Nat.lt_or_ge i j with h | h
    · exact List.pairwise_iff_getElem.1 hs i j hi hj h
    · obtain rfl : i = j := by omega
      exact Int.le_refl _
  have h1 := hle a (b - 1) ha1 (by omega) (by omega)
  have h2 := hle (b - 1) b (by omega) hb1 (by omega)
  have hne : l[b] ≠ l[b - 1] := by
    simp only [Lib.keeps, bang hb1, bang (show b - 1 < l.length by omega)] at hb2
    intro e
    simp [e, show b ≠ 0 by omega] at hb2
  omega
theorem sorted_le (l : List Int) : (l.mergeSort fun x y => decide (x ≤ y)).Pairwise (· ≤ ·) := by
  have := List.pairwise_mergeSort (le := fun x y : Int => decide (x ≤ y)) (fun a b c h1 h2 => by simp at *; omega) (fun a b => by simp; omega) l
  exact this.imp fun h => by simpa using h
theorem sorted_any (l : List Int) (t : Int) : (l.mergeSort fun x y => decide (x ≤ y)).any (fun u => u == t) = l.any (fun u => u == t) := by
  rw [Bool.eq_iff_iff, List.any_eq_true, List.any_eq_true]
  constructor <;> rintro ⟨u, hu, e⟩ <;> exact ⟨u, by simpa using hu, e⟩
end Go.Proofs.YtjnnmgjpnbfhlaaGreatDoor.L
