import Derived.Test.YticemfakkgebhaaDoorScrM
import Derived.Lib.SplitLaws
namespace Go.Proofs.YticemfakkgebhaaDoor.L
open Go Go.Lift
set_option linter.unusedVariables false
set_option linter.unusedSimpArgs false
set_option maxRecDepth 100000

/-! ### Strings -/
theorem bs_ext {a b : ByteArray} (h : a.data.toList = b.data.toList) : a = b := by
  obtain ⟨a⟩ := a
  obtain ⟨b⟩ := b
  exact congrArg ByteArray.mk (Array.ext' h)
theorem bseq (a b : ByteArray) : (a.toList == b.toList) = decide (a = b) := by
  rw [ByteArray.toList_eq, ByteArray.toList_eq]
  by_cases h : a = b
  · subst h; simp
  · rw [decide_eq_false h, beq_eq_false_iff_ne]
    exact fun e => h (bs_ext e)
theorem ite_or (a b : Bool) : (if a = true then true else b) = (a || b) := by cases a <;> rfl
theorem ite_and (a b : Bool) : (if a = true then b else false) = (a && b) := by cases a <;> rfl

/-! ### Show -/
def it (n : Int) : ByteArray := ⟨(Lib.itoa n).toArray⟩
def msgB : ByteArray := ⟨#[109, 101, 115, 115, 97, 103, 101]⟩
def wakeB : ByteArray := ⟨#[119, 97, 107, 101]⟩
def spB : ByteArray := ⟨#[32]⟩
def emB : ByteArray := ⟨#[]⟩
def fieldsOf (x : IN) (nm : ByteArray) : List ByteArray := it x.1 :: nm :: it x.2.2.1 :: x.2.2.2.1.map it
def lineOf (x : IN) (nm : ByteArray) : ByteArray := ⟨(joinL (fieldsOf x nm) spB).toArray⟩
def nmOf (k : Int) : Option (ByteArray × Int × Int × Int) := if k = 1 then some (msgB, 64, 1, 16) else if k = 2 then some (wakeB, 32, 0, 0) else none
def legalQ (x : IN) (q : ByteArray × Int × Int × Int) : Prop := 0 ≤ x.1 ∧ x.1 < 1099511627776 ∧ 1 ≤ x.2.2.1 ∧ x.2.2.1 ≤ q.2.1 ∧ q.2.2.1 ≤ (x.2.2.2.1.length : Int) ∧ (x.2.2.2.1.length : Int) ≤ q.2.2.2
instance (x : IN) (q : ByteArray × Int × Int × Int) : Decidable (legalQ x q) := by unfold legalQ; infer_instance
def showS (x : IN) : Option ByteArray := match nmOf x.2.1 with
  | none => none
  | some q => if legalQ x q then some (lineOf x q.1) else none
def dI (x : IN) : Prop := inI x.1 ∧ inI x.2.2.1 ∧ ∀ n ∈ x.2.2.2.1, inI n

theorem nDigits_le : ∀ (k u : Nat), u < 10 ^ (k + 1) → Lib.nDigits u ≤ k + 1
  | 0, u, h => by rw [Lib.nDigits_small (by simpa using h)]; omega
  | k + 1, u, h => by
    by_cases h0 : u < 10
    · rw [Lib.nDigits_small h0]; omega
    · rw [Lib.nDigits_big h0]
      have := nDigits_le k (u / 10) (by rw [Nat.pow_succ] at h; omega)
      omega
theorem itoa_len {n : Int} (h : inI n) : (Lib.itoa n).length ≤ 20 := by
  obtain ⟨h1, h2⟩ := h
  unfold Lib.itoa
  split
  · rw [List.length_cons, Lib.decDigits_length]
    have := nDigits_le 18 n.natAbs (by omega)
    omega
  · rw [Lib.decDigits_length]
    have := nDigits_le 18 n.toNat (by omega)
    omega

theorem d31_it (k : Nat) {n : Int} (h : inI n) : d31 k (n, (10, ())) = some ((it n, ()), ()) := by
  unfold d31
  exact if_pos ⟨rfl, h⟩
theorem d30_it (k : Nat) {n : Int} (h : inI n) : d30 k (n, ()) = some ((it n, ()), ()) := by
  simp only [d30]
  rw [if_pos h]; rfl
theorem d9_loop (k0 : Nat) (K : (List ByteArray × Unit) × Unit → Option ((ByteArray × Bool × Unit) × Unit)) (ds : List Int) (hd : ∀ n ∈ ds, inI n) (hl : ds.length ≤ 1000) : ∀ n i k (out : List ByteArray), i + n = ds.length → n < k → out.length + n ≤ 2000 →
    loopN (d9_L3 k0 K) k ((out, ()), ((i : Int), (ds, ((ds.length : Int), ())))) = K ((out ++ (ds.drop i).map it, ()), ()) := by
  intro n
  induction n with
  | zero =>
    intro i k out hi hk ho
    obtain ⟨k, rfl⟩ : ∃ k', k = k' + 1 := ⟨k - 1, by omega⟩
    simp only [loopN, d9_L3, lt, dnlt (show ds.length ≤ i by omega), Bool.false_eq_true, if_false]
    rw [List.drop_eq_nil_of_le (by omega)]
    simp
  | succ n ih =>
    intro i k out hi hk ho
    obtain ⟨k, rfl⟩ : ∃ k', k = k' + 1 := ⟨k - 1, by omega⟩
    have h1 : i < ds.length := by omega
    have e1 : ∀ d, ds.getD i d = ds[i] := by simp [h1]
    have f1 : appFits out.length 1 16 = true := fit1 (by omega) (by omega)
    have hx := d31_it k0 (hd ds[i] (List.getElem_mem _))
    rw [List.drop_eq_getElem_cons h1, List.map_cons]
    have := ih (i + 1) k (out ++ [it ds[i]]) (by omega) (by omega) (by simp; omega)
    simp only [loopN, d9_L3, lt, shr, dlt h1, dge0, Bool.and_self, if_true, Int.toNat_natCast, e1, hx, Option.bind_some, List.length_singleton, f1, d9_K2, wr1 (show i < 4611686018427387904 by omega), this]
    rw [List.append_assoc]; rfl

theorem join_fits (x : IN) (nm : ByteArray) (hd : dI x) (hn : nm.data.toList.length ≤ 7) (hl : x.2.2.2.1.length ≤ 1000) : (joinL (fieldsOf x nm) spB).length ≤ 100000 := by
  unfold joinL fieldsOf
  simp only [List.map_cons]
  rw [Lib.join_length]
  have e1 : spB.data.toList.length = 1 := rfl
  rw [e1]
  have hz : ∀ l : List Int, (∀ n ∈ l, inI n) → Lib.lens ((l.map it).map (·.data.toList)) ≤ 20 * l.length := by
    intro l
    induction l with
    | nil => intro _; simp [Lib.lens]
    | cons n l ih =>
      intro h
      have h1 := ih fun m hm => h m (List.mem_cons_of_mem _ hm)
      have h2 := itoa_len (h n (List.mem_cons_self ..))
      simp only [List.map_cons, Lib.lens, List.length_cons, List.sum_cons] at *
      simp only [it] at *
      omega
  have h1 := hz _ hd.2.2
  have h2 := itoa_len hd.1
  have h3 := itoa_len hd.2.1
  simp only [List.length_cons, List.length_map, Lib.lens, List.map_cons, List.sum_cons] at *
  simp only [it] at *
  omega

theorem name_msg (k : Nat) : d29 k (1, ()) = some ((msgB, ()), ()) := by kernel_rfl
theorem name_wake (k : Nat) : d29 k (2, ()) = some ((wakeB, ()), ()) := by kernel_rfl
theorem name_none (k : Nat) {n : Int} (h1 : ¬ n = 1) (h2 : ¬ n = 2) : d29 k (n, ()) = some ((emB, ()), ()) := by
  have e1 : (n == 1) = false := by simpa using h1
  have e2 : (n == 2) = false := by simpa using h2
  simp only [d29, lt, shr, e1, e2, Bool.false_eq_true, if_false]
  rfl
def zW : Int × Int × Int × Int × Unit := (0, 0, 0, 0, ())
def wordsOf (b : ByteArray) : (Int × Int × Int × Int × Unit) × Bool := if b = msgB then ((1, 64, 1, 16, ()), true) else if b = wakeB then ((2, 32, 0, 0, ()), true) else (zW, false)
theorem wake_ne : ¬ wakeB = msgB := by
  intro h
  have := congrArg ByteArray.size h
  cases this
theorem words_eq (k : Nat) (b : ByteArray) : d28 k (b, ()) = some (((wordsOf b).1, ((wordsOf b).2, ())), ()) := by
  have e1 : (ByteArray.toList b == ByteArray.toList (ByteArray.mk (List.toArray ((109 : UInt8) :: ((101 : UInt8) :: ((115 : UInt8) :: ((115 : UInt8) :: ((97 : UInt8) :: ((103 : UInt8) :: ((101 : UInt8) :: ([] : List UInt8))))))))))) = decide (b = msgB) := bseq b msgB
  have e2 : (ByteArray.toList b == ByteArray.toList (ByteArray.mk (List.toArray ((119 : UInt8) :: ((97 : UInt8) :: ((107 : UInt8) :: ((101 : UInt8) :: ([] : List UInt8)))))))) = decide (b = wakeB) := bseq b wakeB
  simp only [d28, lt, shr, e1, e2, d28_K1]
  unfold wordsOf
  by_cases h1 : b = msgB
  · simp only [h1, decide_true, if_true]
  · by_cases h2 : b = wakeB
    · simp only [h2, wake_ne, decide_true, decide_false, if_true, if_false, Bool.false_eq_true]
    · simp only [h1, h2, decide_false, if_false, Bool.false_eq_true]; rfl
theorem words_msg : wordsOf msgB = ((1, 64, 1, 16, ()), true) := by unfold wordsOf; rw [if_pos rfl]
theorem em_ne : ¬ emB = msgB ∧ ¬ emB = wakeB := ⟨(by intro h; have := congrArg ByteArray.size h; cases this), (by intro h; have := congrArg ByteArray.size h; cases this)⟩
theorem words_wake : wordsOf wakeB = ((2, 32, 0, 0, ()), true) := by unfold wordsOf; rw [if_neg wake_ne, if_pos rfl]
theorem words_em : wordsOf emB = (zW, false) := by unfold wordsOf; rw [if_neg em_ne.1, if_neg em_ne.2]

def outOf (o : Option ByteArray) : (ByteArray × Bool × Unit) × Unit := match o with
  | some s => ((s, (true, ())), ())
  | none => ((emB, (false, ())), ())
theorem show_eq (k : Nat) (hk : 20 < k) (x : IN) (hd : dI x) : d9 k (x, ()) = some (outOf (showS x)) := by
  have main : ∀ (nm : ByteArray) (t lo hi : Int), hi ≤ 16 → nm.data.toList.length ≤ 7 → d29 k (x.2.1, ()) = some ((nm, ()), ()) → (∃ kk, wordsOf nm = ((kk, t, lo, hi, ()), true)) → nmOf x.2.1 = some (nm, t, lo, hi) → d9 k (x, ()) = some (outOf (showS x)) := by
    intro nm t lo hi hhi hnl h29 ⟨kk, hw⟩ hnm
    have h28 := words_eq k nm
    rw [hw] at h28
    unfold showS
    rw [hnm]
    simp only [d9, lt, shr, h29, h28, Option.bind_some, Bool.not_true, ite_or, Bool.false_or]
    by_cases hl : legalQ x (nm, t, lo, hi)
    · rw [if_pos hl]
      obtain ⟨l1, l2, l3, l4, l5, l6⟩ := hl
      simp only at l4 l5 l6
      rw [if_neg (by simp only [Bool.or_eq_true, decide_eq_true_eq]; omega)]
      have hlen : x.2.2.2.1.length ≤ 16 := by omega
      have h32 : d32 k (fieldsOf x nm, ((ByteArray.mk (List.toArray ((32 : UInt8) :: ([] : List UInt8)))), ())) = some ((lineOf x nm, ()), ()) := by
        simp only [d32]
        have hj := join_fits x nm hd hnl (by omega)
        have hf : (fieldsOf x nm).length ≤ 140737488355328 := by simp only [fieldsOf, List.length_cons, List.length_map]; omega
        have hj' : (joinL (fieldsOf x nm) ((ByteArray.mk (List.toArray ((32 : UInt8) :: ([] : List UInt8)))))).length ≤ 140737488355328 := Nat.le_trans hj (by omega)
        rw [if_pos ⟨hf, hj'⟩]; rfl
      have hloop := d9_loop k (d9_K1 k) x.2.2.2.1 hd.2.2 (by omega) x.2.2.2.1.length 0 k [it x.1, nm, it x.2.2.1] (by omega) (by omega) (by simp; omega)
      simp only [d30_it k hd.1, d30_it k hd.2.1, Option.bind_some]
      refine Eq.trans hloop ?_
      simp only [List.drop_zero, d9_K1, List.cons_append, List.nil_append]
      rw [show it x.1 :: nm :: it x.2.2.1 :: x.2.2.2.1.map it = fieldsOf x nm from rfl, h32]
      rfl
    · rw [if_neg hl, if_pos (by
        unfold legalQ at hl
        simp only [Bool.or_eq_true, decide_eq_true_eq]
        simp only at hl
        omega)]
      rfl
  by_cases h1 : x.2.1 = 1
  · exact main msgB 64 1 16 (by omega) (by decide) (by rw [h1]; exact name_msg k) ⟨1, words_msg⟩ (by unfold nmOf; rw [if_pos h1])
  · by_cases h2 : x.2.1 = 2
    · exact main wakeB 32 0 0 (by omega) (by decide) (by rw [h2]; exact name_wake k) ⟨2, words_wake⟩ (by unfold nmOf; rw [if_neg h1, if_pos h2])
    · have h28 := words_eq k emB
      rw [words_em] at h28
      unfold showS nmOf
      rw [if_neg h1, if_neg h2]
      simp only [d9, lt, shr, name_none k h1 h2, h28, Option.bind_some, Bool.not_false, ite_or, Bool.true_or, if_true]
      rfl

/-! ### A line -/
def num (s : ByteArray) : Int := if minus s then RowKit.wrap64 (-(numF s s.size 0 0)) else numF s s.size 0 0
theorem wrap64_in (n : Int) : inI (RowKit.wrap64 n) := by unfold inI RowKit.wrap64; omega
theorem numF_in (s : ByteArray) : ∀ (b pos : Nat) (n : Int), inI n → inI (numF s b pos n)
  | 0, _, n, h => h
  | b + 1, pos, n, h => by
    unfold numF
    split
    · refine numF_in s b _ _ ?_
      unfold stepN
      split
      · exact wrap64_in _
      · exact h
    · exact h
theorem num_in (s : ByteArray) : inI (num s) := by
  unfold num
  split
  · exact wrap64_in _
  · exact numF_in _ _ _ _ (by unfold inI; omega)
theorem d59_num (k : Nat) (s : ByteArray) : d59 k (s, ()) = some ((num s, ()), ()) := rfl
def fs (s : ByteArray) : List ByteArray := Lib.splitB spB 0 (min 20 (s.size + 1) - 1) s
theorem fs_len (s : ByteArray) : (fs s).length ≤ 20 := by
  have := Lib.splitB_length_le spB 0 (min 20 (s.size + 1) - 1) s
  unfold fs
  omega
theorem d58_fs (k : Nat) (s : ByteArray) (h : s.size < 4294967281) : d58 k (s, ((ByteArray.mk (List.toArray ((32 : UInt8) :: ([] : List UInt8)))), ((20 : Int), ()))) = some ((fs s, ()), ()) := by
  simp only [d58]
  have h1 : 1 ≤ (ByteArray.mk (List.toArray ((32 : UInt8) :: ([] : List UInt8)))).size := by decide
  rw [if_pos ⟨h, h1, by omega, by omega⟩]
  rfl
/-- What a line is read as. -/
def parse (s : ByteArray) : IN × Bool :=
  if (fs s).length < 3 then ((0, 0, 0, [], ()), false) else
    let w := wordsOf ((fs s).getD 1 emB)
    let x : IN := (num ((fs s).getD 0 emB), w.1.1, num ((fs s).getD 2 emB), ((fs s).drop 3).map num, ())
    (x, w.2 && decide ((outOf (showS x)).1.1 = s))
theorem parse_dI (s : ByteArray) : dI (parse s).1 := by
  unfold parse
  split
  · exact ⟨by unfold inI; simp, by unfold inI; simp, by simp⟩
  · refine ⟨num_in _, num_in _, fun n hn => ?_⟩
    obtain ⟨b, _, rfl⟩ := List.mem_map.1 hn
    exact num_in b

theorem d36_loop (k0 : Nat) (K : (IN × IN × Unit) × ByteArray × Bool × Unit → Option ((IN × Bool × Unit) × Unit)) (l : List ByteArray) (z : IN) (s : ByteArray) (okk : Bool) (t kd tg : Int) (hl : l.length ≤ 1000) : ∀ n i k (out : List Int), i + n = l.length → n < k → out.length + n ≤ 2000 →
    loopN (d36_L3 k0 K) k (((t, (kd, (tg, (out, ())))), (z, ())), ((i : Int), (l, (s, (okk, ((l.length : Int), ())))))) = K ((z, ((t, (kd, (tg, (out ++ (l.drop i).map num, ())))), ())), (s, (okk, ()))) := by
  intro n
  induction n with
  | zero =>
    intro i k out hi hk ho
    obtain ⟨k, rfl⟩ : ∃ k', k = k' + 1 := ⟨k - 1, by omega⟩
    simp only [loopN, d36_L3, lt, dnlt (show l.length ≤ i by omega), Bool.false_eq_true, if_false]
    rw [List.drop_eq_nil_of_le (by omega)]
    simp
  | succ n ih =>
    intro i k out hi hk ho
    obtain ⟨k, rfl⟩ : ∃ k', k = k' + 1 := ⟨k - 1, by omega⟩
    have h1 : i < l.length := by omega
    have e1 : ∀ d, l.getD i d = l[i] := by simp [h1]
    have f1 : appFits out.length 1 8 = true := fit1 (by omega) (by omega)
    rw [List.drop_eq_getElem_cons h1, List.map_cons]
    have := ih (i + 1) k (out ++ [num l[i]]) (by omega) (by omega) (by simp; omega)
    simp only [loopN, d36_L3, lt, shr, dlt h1, dge0, Bool.and_self, Bool.true_and, if_true, Int.toNat_natCast, e1, d59_num, Option.bind_some, List.length_singleton, f1, d36_K2, wr1 (show i < 4611686018427387904 by omega), this]
    rw [List.append_assoc]; rfl

theorem line_eq (k : Nat) (hk : 40 < k) (s : ByteArray) (hs : s.size < 4294967281) : d36 k (s, ()) = some (((parse s).1, ((parse s).2, ())), ()) := by
  have hp := parse_dI s
  unfold parse at hp ⊢
  have hlen := fs_len s
  simp only [d36, lt, shr, d58_fs k s hs, Option.bind_some]
  by_cases h3 : (fs s).length < 3
  · rw [if_pos (by rw [decide_eq_true_eq]; omega), if_pos h3]
  · rw [if_neg h3] at hp
    rw [if_neg (by rw [decide_eq_true_eq]; omega), if_neg h3]
    have c0 : ∀ n : Nat, n < 3 → decide ((n : Int) < ((fs s).length : Int)) = true := fun n hn => dlt (by omega)
    have c00 : decide ((0 : Int) < ((fs s).length : Int)) = true := c0 0 (by omega)
    have c01 : decide ((1 : Int) < ((fs s).length : Int)) = true := c0 1 (by omega)
    have c02 : decide ((2 : Int) < ((fs s).length : Int)) = true := c0 2 (by omega)
    have c10 : decide (0 < (fs s).length) = true := decide_eq_true (by omega)
    have c11 : decide (1 < (fs s).length) = true := decide_eq_true (by omega)
    have c12 : decide (2 < (fs s).length) = true := decide_eq_true (by omega)
    have c3 : decide (3 ≤ (fs s).length) = true := decide_eq_true (by omega)
    have c4 : decide ((fs s).length ≤ (fs s).length) = true := decide_eq_true (Nat.le_refl _)
    have t0 : Int.toNat 0 = 0 := rfl
    have t1 : Int.toNat 1 = 1 := rfl
    have t2 : Int.toNat 2 = 2 := rfl
    have t3 : Int.toNat 3 = 3 := rfl
    have q1 : decide ((0 : Int) ≤ 1) = true := rfl
    have q0 : decide ((0 : Int) ≤ 0) = true := rfl
    have q2 : decide ((0 : Int) ≤ 2) = true := rfl
    have q3 : decide ((0 : Int) ≤ 3) = true := rfl
    simp only [c00, c01, c02, c10, c11, c12, c3, c4, t0, t1, t2, t3, q0, q1, q2, q3, Bool.and_self, Bool.and_true, if_true, words_eq, d59_num, Option.bind_some, List.take_length]
    have hb : ∀ i, (fs s).getD i ByteArray.empty = (fs s).getD i emB := fun i => rfl
    rw [hb, hb, hb]
    have hloop := d36_loop k (d36_K1 k) ((fs s).drop 3) (0, 0, 0, [], ()) s (wordsOf ((fs s).getD 1 emB)).2 (num ((fs s).getD 0 emB)) (wordsOf ((fs s).getD 1 emB)).1.1 (num ((fs s).getD 2 emB)) (by simp; omega) ((fs s).drop 3).length 0 k [] (by omega) (by simp; omega) (by simp; omega)
    refine Eq.trans hloop ?_
    simp only [List.drop_zero, List.nil_append, d36_K1]
    rw [show_eq k (by omega) _ hp]
    simp only [Option.bind_some, lt, ite_and]
    rw [bseq]
theorem parse_shows {s : ByteArray} (h : (parse s).2 = true) : showS (parse s).1 = some s := by
  unfold parse at h ⊢
  split at h
  · cases h
  · rename_i h3
    rw [if_neg h3]
    simp only [Bool.and_eq_true, decide_eq_true_eq] at h ⊢
    obtain ⟨_, h⟩ := h
    generalize hx : showS _ = o at h ⊢
    cases o with
    | some t => exact congrArg some h
    | none =>
      exfalso
      have h : emB = s := h
      subst h
      exact h3 (by decide)
end Go.Proofs.YticemfakkgebhaaDoor.L
