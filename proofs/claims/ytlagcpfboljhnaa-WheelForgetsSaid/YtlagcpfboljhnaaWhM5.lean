import Derived.Test.YtlagcpfboljhnaaWhM4
namespace Go.Proofs.Ytlagcpfboljhnaa.L
open Go Go.Lift
set_option linter.unusedVariables false
set_option linter.unusedSimpArgs false
theorem wrap_in (x : Int) (h : 0 ≤ x ∧ x < 9223372036854775808) : IntKind.i64.wrap x = x := by
  obtain ⟨n, rfl⟩ : ∃ n : Nat, x = n := ⟨x.toNat, by omega⟩
  exact wrap_nat n (by omega)
theorem d26_eq (k : Nat) (t l : Nat) (ht : t ≤ 1099511627776) (hl : l ≤ 6) : d26 k ((t : Int), ((l : Int), ())) = some ((((dig t l : Nat) : Int), ()), ()) := by
  unfold d26
  simp only [lt]
  rw [wrap_in (6 * (l : Int)) (by omega)]
  have c1 : (!decide (6 * (l : Int) < 0)) = true := by simp; omega
  rw [if_pos c1]
  have e0 : min (6 * (l : Int)).toNat IntKind.i64.bits = 6 * l := by
    show min (6 * (l : Int)).toNat 64 = _
    omega
  rw [e0]
  have e1 : Int.fdiv (t : Int) ((2 : Int) ^ (6 * l)) = ((t / 64 ^ l : Nat) : Int) := by
    rw [Int.natCast_ediv, show (2 : Int) ^ (6 * l) = ((64 ^ l : Nat) : Int) by rw [Int.natCast_pow, Int.pow_mul]; rfl]
    exact Int.fdiv_eq_ediv_of_nonneg _ (Int.natCast_nonneg _)
  rw [e1]
  have h2 : t / 64 ^ l < 9223372036854775808 := Nat.lt_of_le_of_lt (Nat.div_le_self _ _) (by omega)
  have := bits_and (t / 64 ^ l) 63 h2 (by omega)
  have e2 : (t / 64 ^ l) &&& 63 = dig t l := Nat.and_two_pow_sub_one_eq_mod (t / 64 ^ l) 6
  rw [e2] at this
  have h3 : IntKind.i64.wrap (((BitVec.ofInt IntKind.i64.bits ((t / 64 ^ l : Nat) : Int) &&& BitVec.ofInt IntKind.i64.bits (63 : Int)).toNat : Nat) : Int) = ((dig t l : Nat) : Int) := this
  rw [h3]
/-- The tick of a timer. -/
def tickOf (m : MP) (id : Int) : Int := (mget KI KI id (some m)).getD 0
def least (m : MP) (a : Int) (l : List Int) : Int := l.foldl (fun a id => if tickOf m id < a then tickOf m id else a) a
theorem least_le (m : MP) : ∀ (l : List Int) (a : Int), least m a l ≤ a ∧ (∀ x ∈ l, least m a l ≤ tickOf m x) ∧ (least m a l = a ∨ ∃ x ∈ l, least m a l = tickOf m x)
  | [], a => ⟨Int.le_refl _, by simp, .inl rfl⟩
  | x :: l, a => by
    obtain ⟨h1, h2, h3⟩ := least_le m l (if tickOf m x < a then tickOf m x else a)
    have e : least m a (x :: l) = least m (if tickOf m x < a then tickOf m x else a) l := rfl
    rw [e]
    have hb : (if tickOf m x < a then tickOf m x else a) ≤ a ∧ (if tickOf m x < a then tickOf m x else a) ≤ tickOf m x := by split <;> omega
    refine ⟨Int.le_trans h1 hb.1, fun y hy => ?_, ?_⟩
    · rcases List.mem_cons.1 hy with rfl | hy
      · exact Int.le_trans h1 hb.2
      · exact h2 y hy
    · rcases h3 with h3 | ⟨y, hy, h3⟩
      · rw [h3]
        split
        · exact .inr ⟨x, List.mem_cons_self .., rfl⟩
        · exact .inl rfl
      · exact .inr ⟨y, List.mem_cons_of_mem _ hy, h3⟩
theorem L7_run (n : Int) (m : MP) (R : RG) (K : (Unit × (Int × Unit)) → Option ((Int × (Bool × Unit)) × Unit)) (l : List Int) (hl : l.length ≤ 65536) : ∀ (j i : Nat) (a : Int) (f : Nat), i + j = l.length → j + 1 ≤ f →
    loopN (d12_L7 K) f ((), ((i : Int), (wh n m R, (a, (l, ((l.length : Int), ())))))) = K ((), (least m a (l.drop i), ()))
  | 0, i, a, f + 1, h, hf => by
    show d12_L7 K (loopN (d12_L7 K) f) _ = _
    unfold d12_L7
    have c1 : decide ((i : Int) < (l.length : Int)) = false := decide_eq_false (by omega)
    simp only [lt, c1, Bool.false_eq_true, if_false]
    rw [List.drop_eq_nil_of_le (by omega)]
    rfl
  | j + 1, i, a, f + 1, h, hf => by
    show d12_L7 K (loopN (d12_L7 K) f) _ = _
    unfold d12_L7
    have hi : i < l.length := by omega
    have c1 : decide ((i : Int) < (l.length : Int)) = true := decide_eq_true (by omega)
    have c2 : decide ((0 : Int) ≤ (i : Int)) = true := decide_eq_true (by omega)
    simp only [lt, shr, c1, c2, Bool.and_self, if_true, d12_K6]
    rw [wrap_in _ (by omega)]
    have e1 : l.getD (i : Int).toNat 0 = l[i] := by simp [hi]
    rw [e1]
    have := L7_run n m R K l hl j (i + 1) (if tickOf m l[i] < a then tickOf m l[i] else a) f (by omega) (by omega)
    rw [List.drop_eq_getElem_cons hi]
    exact this
/-- The first slot of a level, from a digit on, that holds something. -/
theorem L8_run (n : Nat) (m : MP) (R : RG) (hn : n ≤ 1099511627776) (hS : Shp R) (hlen : ∀ l d, l < 7 → d < 64 → (ringAt R l d).length ≤ 65536) (K : (Unit × (WH × (Int × Unit))) → Option ((Int × (Bool × Unit)) × Unit)) (x0 : Nat) (hx0 : 70000 ≤ x0) (l : Nat) (hl : l < 7) (q : Int) :
    ∀ (j k f : Nat), dig n l + k + j = 64 → j + 1 ≤ f →
    ((∀ d, dig n l + k ≤ d → d < 64 → ringAt R l d = []) ∧ loopN (d12_L8 x0 K) f ((), ((k : Int), (wh n m R, ((l : Int), (q, (((64 - dig n l : Nat) : Int), ())))))) = K ((), (wh n m R, (q, ())))) ∨
    ∃ d x r, dig n l + k ≤ d ∧ d < 64 ∧ ringAt R l d = x :: r ∧ (∀ d', dig n l + k ≤ d' → d' < d → ringAt R l d' = []) ∧ loopN (d12_L8 x0 K) f ((), ((k : Int), (wh n m R, ((l : Int), (q, (((64 - dig n l : Nat) : Int), ())))))) = some ((least m (tickOf m x) (x :: r), (true, ())), ())
  | 0, k, f + 1, h, hf => by
    refine .inl ⟨fun d h1 h2 => by omega, ?_⟩
    show d12_L8 x0 K (loopN (d12_L8 x0 K) f) _ = _
    unfold d12_L8
    have c1 : decide ((k : Int) < ((64 - dig n l : Nat) : Int)) = false := decide_eq_false (by omega)
    simp only [lt, c1, Bool.false_eq_true, if_false]
  | j + 1, k, f + 1, h, hf => by
    have hd : dig n l + k < 64 := by omega
    have step : loopN (d12_L8 x0 K) (f + 1) ((), ((k : Int), (wh n m R, ((l : Int), (q, (((64 - dig n l : Nat) : Int), ())))))) =
        if (((ringAt R l (dig n l + k)).length : Int) == 0) = true then loopN (d12_L8 x0 K) f ((), (((k + 1 : Nat) : Int), (wh n m R, ((l : Int), (q, (((64 - dig n l : Nat) : Int), ()))))))
        else if (decide ((0 : Int) ≤ 0) && decide ((0 : Int) < ((ringAt R l (dig n l + k)).length : Int))) = true then loopN (d12_L7 d12_K5) x0 ((), ((0 : Int), (wh n m R, (tickOf m ((ringAt R l (dig n l + k)).getD 0 0), (ringAt R l (dig n l + k), (((ringAt R l (dig n l + k)).length : Int), ())))))) else none := by
      show d12_L8 x0 K (loopN (d12_L8 x0 K) f) _ = _
      unfold d12_L8
      have c1 : decide ((k : Int) < ((64 - dig n l : Nat) : Int)) = true := decide_eq_true (by omega)
      have c2 : decide ((0 : Int) ≤ (l : Int)) = true := decide_eq_true (by omega)
      have c3 : decide ((l : Int) < ((7 : Nat) : Int)) = true := decide_eq_true (by omega)
      have e1 := d26_eq x0 n l hn (by omega)
      have e2 : IntKind.i64.wrap (((dig n l : Nat) : Int) + (k : Int)) = ((dig n l + k : Nat) : Int) := by rw [wrap_in _ (by omega)]; omega
      have c4 : decide ((0 : Int) ≤ ((dig n l + k : Nat) : Int)) = true := decide_eq_true (by omega)
      have c5 : decide (((dig n l + k : Nat) : Int) < ((64 : Nat) : Int)) = true := decide_eq_true (by omega)
      have c6 : ((R.getD (l : Int).toNat (List.replicate 64 (some []))).getD ((dig n l + k : Nat) : Int).toNat (some [])).isSome = true := hS.ful l _ hl hd
      have e3 : ((R.getD (l : Int).toNat (List.replicate 64 (some []))).getD ((dig n l + k : Nat) : Int).toNat (some [])).getD [] = ringAt R l (dig n l + k) := rfl
      have e4 : IntKind.i64.wrap ((k : Int) + 1) = ((k + 1 : Nat) : Int) := by rw [wrap_in _ (by omega)]; omega
      simp only [lt, shr, wh, c1, if_true, e1, Option.bind_some, e2, c2, c3, c4, c5, c6, e3, e4, Bool.and_self, d12_K4]
      rfl
    rw [step]
    cases hr : ringAt R l (dig n l + k) with
    | nil =>
      simp only [List.length_nil]
      rw [if_pos (by rfl)]
      rcases L8_run n m R hn hS hlen K x0 hx0 l hl q j (k + 1) f (by omega) (by omega) with ⟨h1, h2⟩ | ⟨d, x, r, h1, h2, h3, h4, h5⟩
      · refine .inl ⟨fun d h3 h4 => ?_, h2⟩
        by_cases e : d = dig n l + k
        · rw [e]; exact hr
        · exact h1 d (by omega) h4
      · refine .inr ⟨d, x, r, by omega, h2, h3, fun d' h6 h7 => ?_, h5⟩
        by_cases e : d' = dig n l + k
        · rw [e]; exact hr
        · exact h4 d' (by omega) h7
    | cons x r =>
      refine .inr ⟨dig n l + k, x, r, Nat.le_refl _, hd, hr, fun d' h1 h2 => by omega, ?_⟩
      have hle := hlen l (dig n l + k) hl hd
      rw [hr] at hle
      have c1 : (((x :: r).length : Int) == 0) = false := by simp; omega
      have c2 : (decide ((0 : Int) ≤ 0) && decide ((0 : Int) < ((x :: r).length : Int))) = true := by simp
      rw [c1, if_neg (by simp), if_pos c2]
      have := L7_run n m R d12_K5 (x :: r) hle (x :: r).length 0 (tickOf m x) x0 (by omega) (by omega)
      exact this

/-- The first slot of all, from a level on, that holds something. -/
theorem L9_run (n : Nat) (m : MP) (R : RG) (hn : n ≤ 1099511627776) (hS : Shp R) (hlen : ∀ l d, l < 7 → d < 64 → (ringAt R l d).length ≤ 65536) (x0 : Nat) (hx0 : 70000 ≤ x0) :
    ∀ (j l f : Nat), l + j = 7 → j + 1 ≤ f →
    ((∀ l' d, l ≤ l' → l' < 7 → dig n l' ≤ d → d < 64 → ringAt R l' d = []) ∧ loopN (d12_L9 x0 d12_K1) f ((), (wh n m R, ((l : Int), ()))) = some ((0, (false, ())), ())) ∨
    ∃ l' d x r, l ≤ l' ∧ l' < 7 ∧ dig n l' ≤ d ∧ d < 64 ∧ ringAt R l' d = x :: r ∧ (∀ l'' d', l ≤ l'' → l'' < 7 → dig n l'' ≤ d' → d' < 64 → (l'' < l' ∨ (l'' = l' ∧ d' < d)) → ringAt R l'' d' = []) ∧
      loopN (d12_L9 x0 d12_K1) f ((), (wh n m R, ((l : Int), ()))) = some ((least m (tickOf m x) (x :: r), (true, ())), ())
  | 0, l, f + 1, h, hf => by
    refine .inl ⟨fun l' d h1 h2 => by omega, ?_⟩
    show d12_L9 x0 d12_K1 (loopN (d12_L9 x0 d12_K1) f) _ = _
    unfold d12_L9
    have c1 : decide ((l : Int) < 7) = false := decide_eq_false (by omega)
    simp only [lt, c1, Bool.false_eq_true, if_false]
    rfl
  | j + 1, l, f + 1, h, hf => by
    have hl : l < 7 := by omega
    have hd := dig_lt n l
    have step : loopN (d12_L9 x0 d12_K1) (f + 1) ((), (wh n m R, ((l : Int), ()))) = loopN (d12_L8 x0 (d12_K3 (d12_K2 (loopN (d12_L9 x0 d12_K1) f)))) x0 ((), (((0 : Nat) : Int), (wh n m R, ((l : Int), ((l : Int), (((64 - dig n l : Nat) : Int), ())))))) := by
      show d12_L9 x0 d12_K1 (loopN (d12_L9 x0 d12_K1) f) _ = _
      unfold d12_L9
      have c1 : decide ((l : Int) < 7) = true := decide_eq_true (by omega)
      have e1 := d26_eq x0 n l hn (by omega)
      have e2 : IntKind.i64.wrap ((64 : Int) - ((dig n l : Nat) : Int)) = ((64 - dig n l : Nat) : Int) := by rw [wrap_in _ (by omega)]; omega
      simp only [lt, shr, c1, if_true, e1, Option.bind_some, e2]
      rfl
    have hk : ∀ q : Int, d12_K3 (d12_K2 (loopN (d12_L9 x0 d12_K1) f)) ((), (wh n m R, ((l : Int), ()))) = loopN (d12_L9 x0 d12_K1) f ((), (wh n m R, (((l + 1 : Nat) : Int), ()))) := by
      intro q
      unfold d12_K3 d12_K2
      have e4 : IntKind.i64.wrap ((l : Int) + 1) = ((l + 1 : Nat) : Int) := by rw [wrap_in _ (by omega)]; omega
      simp only [e4]
    rw [step]
    rcases L8_run n m R hn hS hlen (d12_K3 (d12_K2 (loopN (d12_L9 x0 d12_K1) f))) x0 hx0 l hl (l : Int) (64 - dig n l) 0 x0 (by omega) (by omega) with ⟨h1, h2⟩ | ⟨d, x, r, h1, h2, h3, h4, h5⟩
    · rw [h2, hk 0]
      have hem : ∀ d, dig n l ≤ d → d < 64 → ringAt R l d = [] := fun d a b => h1 d (by omega) b
      rcases L9_run n m R hn hS hlen x0 hx0 j (l + 1) f (by omega) (by omega) with ⟨h3, h4⟩ | ⟨l', d, x, r, g1, g2, g3, g4, g5, g6, g7⟩
      · refine .inl ⟨fun l' d a1 a2 a3 a4 => ?_, h4⟩
        by_cases e : l' = l
        · subst e; exact hem d a3 a4
        · exact h3 l' d (by omega) a2 a3 a4
      · refine .inr ⟨l', d, x, r, by omega, g2, g3, g4, g5, fun l'' d' a1 a2 a3 a4 a5 => ?_, g7⟩
        by_cases e : l'' = l
        · subst e; exact hem d' a3 a4
        · exact g6 l'' d' (by omega) a2 a3 a4 a5
    · refine .inr ⟨l, d, x, r, Nat.le_refl _, hl, by omega, h2, h3, fun l'' d' a1 a2 a3 a4 a5 => ?_, h5⟩
      rcases a5 with a5 | ⟨rfl, a5⟩
      · omega
      · exact h4 d' (by omega) a5
theorem tickOf_mem {m : MP} (hk : Keys m) {id t : Int} (h : (id, t) ∈ m) : tickOf m id = t := by
  unfold tickOf; rw [(mget_iff hk).2 h]; rfl
/-- Next: there is none, or the least tick. -/
theorem d12_eq (k : Nat) (hk : 70000 ≤ k) (n : Int) (m : MP) (R : RG) (hi : Inv n m R) :
    (m = [] ∧ d12 k (wh n m R, ()) = some ((0, (false, ())), ())) ∨
    ∃ t, (∃ id, (id, t) ∈ m) ∧ (∀ id t', (id, t') ∈ m → t ≤ t') ∧ d12 k (wh n m R, ()) = some ((t, (true, ())), ()) := by
  have hlen : ∀ l d, l < 7 → d < 64 → (ringAt R l d).length ≤ 65536 := fun l d hl hd => hi.inv.len hl hd
  obtain ⟨hn1, hn2⟩ := hi.now
  rw [top_eq] at hn2
  obtain ⟨N, rfl⟩ : ∃ N : Nat, n = N := ⟨n.toNat, by omega⟩
  have run : ∀ o, d12 k (wh (N : Int) m R, ()) = o ↔ loopN (d12_L9 k d12_K1) k ((), (wh (N : Int) m R, (((0 : Nat) : Int), ()))) = o := fun o => Iff.rfl
  -- where a timer lies
  have lie : ∀ id t, (id, t) ∈ m → ∃ l d, l < 7 ∧ d < 64 ∧ id ∈ ringAt R l d ∧ Lv N t.toNat l ∧ dig t.toNat l = d ∧ N ≤ t.toNat ∧ (t.toNat : Int) = t := by
    intro id t h
    obtain ⟨k1, k2⟩ := hi.tk id t h
    rw [top_eq] at k2
    obtain ⟨hl, hd⟩ := slot_lt (n := (N : Int)) (t := t) hi.now.2 (by rw [top_eq]; omega)
    refine ⟨_, _, hl, hd, ((hi.inv.ring _ _ hl hd).2 id).2 ⟨t, h, rfl⟩, ?_, rfl, by omega, by omega⟩
    exact lvl_spec N t.toNat (by omega) (by omega)
  have back : ∀ l d id, l < 7 → d < 64 → id ∈ ringAt R l d → ∃ t, (id, t) ∈ m ∧ Lv N t.toNat l ∧ dig t.toNat l = d ∧ N ≤ t.toNat ∧ (t.toNat : Int) = t := by
    intro l d id hl hd h
    obtain ⟨t, h1, h2⟩ := ((hi.inv.ring l d hl hd).2 id).1 h
    obtain ⟨k1, k2⟩ := hi.tk id t h1
    rw [top_eq] at k2
    obtain ⟨e1, e2⟩ := Prod.mk.inj (Option.some.inj h2)
    have e1 : lvl N t.toNat = l := e1
    have e2 : dig t.toNat (lvl N t.toNat) = d := e2
    rw [e1] at e2
    have := lvl_spec N t.toNat (by omega) (by omega)
    rw [e1] at this
    exact ⟨t, h1, this, e2, by omega, by omega⟩
  rcases L9_run N m R (by omega) hi.inv.shp hlen k hk 7 0 k (by omega) (by omega) with ⟨h1, h2⟩ | ⟨l, d, x, r, g1, g2, g3, g4, g5, g6, g7⟩
  · refine .inl ⟨?_, (run _).2 h2⟩
    cases m with
    | nil => rfl
    | cons p m =>
      obtain ⟨l, d, hl, hd, hin, hL, hdg, hle, _⟩ := lie p.1 p.2 (List.mem_cons_self ..)
      have := h1 l d (Nat.zero_le _) hl (by have := (dig_ge hL hle).1; omega) hd
      rw [this] at hin; cases hin
  · refine .inr ⟨_, ?_, ?_, (run _).2 g7⟩
    · obtain ⟨_, _, h3⟩ := least_le m (x :: r) (tickOf m x)
      have : ∃ y ∈ x :: r, least m (tickOf m x) (x :: r) = tickOf m y := by
        rcases h3 with h3 | h3
        · exact ⟨x, List.mem_cons_self .., h3⟩
        · exact h3
      obtain ⟨y, hy, h4⟩ := this
      obtain ⟨t, h5, _⟩ := back l d y g2 g4 (by rw [g5]; exact hy)
      rw [h4, tickOf_mem hi.inv.keys h5]
      exact ⟨y, h5⟩
    · intro id t' hid
      obtain ⟨h1, h2, _⟩ := least_le m (x :: r) (tickOf m x)
      obtain ⟨tx, hx1, hx2, hx3, hx4, hx5⟩ := back l d x g2 g4 (by rw [g5]; exact List.mem_cons_self ..)
      rw [tickOf_mem hi.inv.keys hx1] at h1
      obtain ⟨l', d', hl', hd', hin, hL, hdg, hle, he⟩ := lie id t' hid
      have hge := (dig_ge hL hle).1
      rcases Nat.lt_trichotomy l' l with hc | hc | hc
      · have := g6 l' d' (Nat.zero_le _) hl' (by omega) hd' (.inl hc)
        rw [this] at hin; cases hin
      · subst hc
        rcases Nat.lt_trichotomy d' d with hc | hc | hc
        · have := g6 l' d' (Nat.zero_le _) hl' (by omega) hd' (.inr ⟨rfl, hc⟩)
          rw [this] at hin; cases hin
        · subst hc
          rw [g5] at hin
          have := h2 id hin
          rw [tickOf_mem hi.inv.keys hid] at this
          exact this
        · have := dig_first hx2 hL (by omega)
          rw [tickOf_mem hi.inv.keys hx1]
          omega
      · have := lv_lt hx2 hL hle hc
        rw [tickOf_mem hi.inv.keys hx1]
        omega
end Go.Proofs.Ytlagcpfboljhnaa.L
