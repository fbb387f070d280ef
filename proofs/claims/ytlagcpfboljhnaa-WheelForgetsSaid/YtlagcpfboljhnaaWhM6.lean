import Derived.Test.YtlagcpfboljhnaaWhM5
namespace Go.Proofs.Ytlagcpfboljhnaa.L
open Go Go.Lift
set_option linter.unusedVariables false
set_option linter.unusedSimpArgs false
theorem L5_run (x0 : Nat) (K : ((WH × Unit) × (Int × (Int × Unit))) → Option (Unit × (WH × Unit))) (T : Int) (hT : 0 ≤ T ∧ T ≤ top) (m : MP) (ids : List Int) (hlen : ids.length ≤ 65536) (q i : Int) :
    ∀ (c j f : Nat) (R : RG) (pos : Int → Int → Option (Nat × Nat)), j + c = ids.length → c + 1 ≤ f → InvP m R pos → (ids.drop j).Nodup → (∀ id ∈ ids.drop j, ∃ t, (id, t) ∈ m ∧ 0 ≤ t ∧ t ≤ top ∧ pos id t = none) →
    ∃ R', InvP m R' (fun a b => if a ∈ ids.drop j then some (slot T b) else pos a b) ∧ loopN (d23_L5 x0 K) f ((wh T m R, (ids, ())), ((j : Int), (q, (i, ((ids.length : Int), ()))))) = K ((wh T m R', ()), (q, (i, ())))
  | 0, j, f + 1, R, pos, h, hf, hi, hn, hm => by
    refine ⟨R, hi.congr fun a b _ => ?_, ?_⟩
    · rw [List.drop_eq_nil_of_le (by omega)]; simp
    · show d23_L5 x0 K (loopN (d23_L5 x0 K) f) _ = _
      unfold d23_L5
      have c1 : decide ((j : Int) < (ids.length : Int)) = false := decide_eq_false (by omega)
      simp only [lt, c1, Bool.false_eq_true, if_false]
  | c + 1, j, f + 1, R, pos, h, hf, hi, hn, hm => by
    have hj : j < ids.length := by omega
    have hdr := List.drop_eq_getElem_cons hj
    rw [hdr] at hn hm
    obtain ⟨hn1, hn2⟩ := List.nodup_cons.1 hn
    obtain ⟨t, k1, k2, k3, k4⟩ := hm _ (List.mem_cons_self ..)
    obtain ⟨hl, hd⟩ := slot_lt (n := T) (t := t) hT.2 k3
    have e1 := d27_eq x0 T ids[j] t m R hT ⟨k2, k3⟩ hi.shp (Nat.le_trans (hi.len hl hd) (by omega))
    rw [mput_same hi.keys k1] at e1
    have hi2 := hi.lay k1 k4 hl hd
    obtain ⟨R', h1, h2⟩ := L5_run x0 K T hT m ids hlen q i c (j + 1) f _ _ (by omega) (by omega) hi2 hn2 (fun id hid => by
      obtain ⟨t', g1, g2, g3, g4⟩ := hm id (List.mem_cons_of_mem _ hid)
      refine ⟨t', g1, g2, g3, ?_⟩
      rw [if_neg (fun e => by subst e; exact hn1 hid)]
      exact g4)
    refine ⟨R', h1.congr fun a b hab => ?_, ?_⟩
    · rw [hdr]
      by_cases e : a = ids[j]
      · subst e
        rw [if_neg hn1, if_pos rfl, if_pos (List.mem_cons_self ..), hi.keys.uniq hab k1]
      · rw [if_neg e]
        by_cases e2 : a ∈ ids.drop (j + 1)
        · rw [if_pos e2, if_pos (List.mem_cons_of_mem _ e2)]
        · rw [if_neg e2, if_neg (fun h => (List.mem_cons.1 h).elim e e2)]
    · rw [← h2]
      show d23_L5 x0 K (loopN (d23_L5 x0 K) f) _ = _
      unfold d23_L5
      have c1 : decide ((j : Int) < (ids.length : Int)) = true := decide_eq_true (by omega)
      have c2 : decide ((0 : Int) ≤ (j : Int)) = true := decide_eq_true (by omega)
      have c3 : decide ((j : Int).toNat < ids.length) = true := decide_eq_true (by omega)
      have e2 : ids.getD (j : Int).toNat 0 = ids[j] := by simp [hj]
      have e3 : (mget KI KI ids[j] (some m)).getD 0 = t := tickOf_mem hi.keys k1
      have e4 : IntKind.i64.wrap ((j : Int) + 1) = ((j + 1 : Nat) : Int) := by rw [wrap_in _ (by omega)]; omega
      have e3' : (mget (Kt.int IntKind.i64) (Kt.int IntKind.i64) ids[j] (wh T m R).2.1).getD 0 = t := e3
      simp only [lt, shr, c1, c2, c3, Bool.and_true, Bool.and_self, if_true, e2]
      rw [e3', e1]
      simp only [Option.bind_some, d23_K4, e4]
/-- Where timers lie when the levels above c have been gone through. -/
def posK (n T c : Nat) (t : Int) : Nat × Nat := if c < lvl n t.toNat ∧ dig t.toNat (lvl n t.toNat) = dig T (lvl n t.toNat) then slot T t else slot n t
theorem L6_run (x0 : Nat) (hx0 : 70000 ≤ x0) (n T : Nat) (hn : n ≤ T) (hT : T ≤ 1099511627776) (m : MP) (htk : ∀ id t, (id, t) ∈ m → (T : Int) ≤ t ∧ t < top) :
    ∀ (c i f : Nat) (R : RG), i + c = 6 → c + 1 ≤ f → InvP m R (fun _ t => some (posK n T (6 - i) t)) →
    ∃ R', InvP m R' (fun _ t => some (posK n T 0 t)) ∧ loopN (d23_L6 x0 d23_K1) f ((wh (T : Int) m R, ()), ((i : Int), ((T : Int), ()))) = some ((), (wh (T : Int) m R', ()))
  | 0, i, f + 1, R, h, hf, hi => by
    refine ⟨R, by have : 6 - i = 0 := by omega
                  rw [this] at hi; exact hi, ?_⟩
    show d23_L6 x0 d23_K1 (loopN (d23_L6 x0 d23_K1) f) _ = _
    unfold d23_L6
    have c1 : decide ((i : Int) < 6) = false := decide_eq_false (by omega)
    simp only [lt, c1, Bool.false_eq_true, if_false]
    rfl
  | c + 1, i, f + 1, R, h, hf, hi => by
    obtain ⟨L, hL⟩ : ∃ L, L = 6 - i := ⟨_, rfl⟩
    rw [← hL] at hi
    have hL1 : 1 ≤ L := by omega
    have hL7 : L < 7 := by omega
    have hd := dig_lt T L
    have hTt : (T : Int) ≤ top := by rw [top_eq]; omega
    -- facts of a timer
    have tf : ∀ id t, (id, t) ∈ m → Lv n t.toNat (lvl n t.toNat) ∧ Lv T t.toNat (lvl T t.toNat) ∧ T ≤ t.toNat ∧ 0 ≤ t ∧ t ≤ top := fun id t ht => by
      obtain ⟨k1, k2⟩ := htk id t ht
      rw [top_eq] at k2 ⊢
      exact ⟨lvl_spec _ _ (by omega) (by omega), lvl_spec _ _ (by omega) (by omega), by omega, by omega, by omega⟩
    -- who lies in the slot
    have who : ∀ id t, (id, t) ∈ m → (posK n T L t = (L, dig T L) ↔ lvl n t.toNat = L ∧ dig t.toNat L = dig T L) := by
      intro id t ht
      obtain ⟨f1, f2, f3, _⟩ := tf id t ht
      unfold posK slot
      split
      · rename_i hc
        constructor
        · intro e
          obtain ⟨e1, e2⟩ := Prod.mk.inj e
          have e1 : lvl T t.toNat = L := e1
          have e2 : dig t.toNat (lvl T t.toNat) = dig T L := e2
          rw [e1] at e2 f2
          have := dig_now f2 e2 f3
          omega
        · intro e; omega
      · rename_i hc
        constructor
        · intro e
          obtain ⟨e1, e2⟩ := Prod.mk.inj e
          have e1 : lvl n t.toNat = L := e1
          have e2 : dig t.toNat (lvl n t.toNat) = dig T L := e2
          rw [e1] at e2
          exact ⟨e1, e2⟩
        · rintro ⟨e1, e2⟩
          have a1 : lvl (n : Int).toNat t.toNat = L := e1
          rw [a1, e2]
    have hA := hi.take hL7 hd
    have hB : InvP m (setR R L (dig T L) (some [])) (fun _ t => if lvl n t.toNat = L ∧ dig t.toNat L = dig T L then none else some (posK n T L t)) := hA.congr fun id t ht => by
      by_cases hw : lvl n t.toNat = L ∧ dig t.toNat L = dig T L
      · rw [if_pos hw, if_pos (by rw [(who id t ht).2 hw])]
      · rw [if_neg hw, if_neg (fun e => hw ((who id t ht).1 (Option.some.inj e)))]
    obtain ⟨r1, r2⟩ := hi.ring L (dig T L) hL7 hd
    have hids : (ringAt R L (dig T L)).length ≤ 65536 := hi.len hL7 hd
    obtain ⟨R1, h1, h2⟩ := L5_run x0 (d23_K3 (d23_K2 (loopN (d23_L6 x0 d23_K1) f))) (T : Int) ⟨by omega, hTt⟩ m (ringAt R L (dig T L)) hids (T : Int) (i : Int) (ringAt R L (dig T L)).length 0 x0 _ _ (by omega) (by omega) hB (by rw [List.drop_zero]; exact r1) (fun id hid => by
      rw [List.drop_zero] at hid
      obtain ⟨t, g1, g2⟩ := (r2 id).1 hid
      obtain ⟨_, _, _, f4, f5⟩ := tf id t g1
      exact ⟨t, g1, f4, f5, if_pos ((who id t g1).1 (Option.some.inj g2))⟩)
    rw [List.drop_zero] at h1
    have hC : InvP m R1 (fun _ t => some (posK n T (6 - (i + 1)) t)) := h1.congr fun id t ht => by
      have hm : id ∈ ringAt R L (dig T L) ↔ lvl n t.toNat = L ∧ dig t.toNat L = dig T L := by
        rw [r2]
        constructor
        · rintro ⟨t', g1, g2⟩
          rw [hi.keys.uniq g1 ht] at g2
          exact (who id t ht).1 (Option.some.inj g2)
        · intro g; exact ⟨t, ht, by rw [(who id t ht).2 g]⟩
      by_cases hw : lvl n t.toNat = L ∧ dig t.toNat L = dig T L
      · rw [if_pos (hm.2 hw)]
        unfold posK
        rw [if_pos ⟨by omega, by rw [hw.1]; exact hw.2⟩]
      · rw [if_neg (fun e => hw (hm.1 e)), if_neg hw]
        unfold posK
        by_cases hc : L < lvl n t.toNat ∧ dig t.toNat (lvl n t.toNat) = dig T (lvl n t.toNat)
        · rw [if_pos hc, if_pos ⟨by omega, hc.2⟩]
        · rw [if_neg hc, if_neg]
          rintro ⟨e1, e2⟩
          rcases Nat.lt_or_ge L (lvl n t.toNat) with e3 | e3
          · exact hc ⟨e3, e2⟩
          · have : lvl n t.toNat = L := by omega
            rw [this] at e2
            exact hw ⟨this, e2⟩
    obtain ⟨R', h3, h4⟩ := L6_run x0 hx0 n T hn hT m htk c (i + 1) f R1 (by omega) (by omega) hC
    refine ⟨R', h3, ?_⟩
    show d23_L6 x0 d23_K1 (loopN (d23_L6 x0 d23_K1) f) _ = _
    generalize loopN (d23_L6 x0 d23_K1) f = G at h2 h4 ⊢
    unfold d23_L6
    have c1 : decide ((i : Int) < 6) = true := decide_eq_true (by omega)
    have e1 : IntKind.i64.wrap ((6 : Int) - (i : Int)) = (L : Int) := by rw [wrap_in _ (by omega)]; omega
    have e2 := d26_eq x0 T L hT (by omega)
    have c2 : decide ((0 : Int) ≤ (L : Int)) = true := decide_eq_true (by omega)
    have c3 : decide ((L : Int) < ((7 : Nat) : Int)) = true := decide_eq_true (by omega)
    have hS := hi.shp
    have c4 : decide ((L : Int).toNat < R.length) = true := decide_eq_true (by rw [hS.len]; omega)
    have c5 : decide ((0 : Int) ≤ ((dig T L : Nat) : Int)) = true := decide_eq_true (by omega)
    have c6 : decide (((dig T L : Nat) : Int) < ((64 : Nat) : Int)) = true := decide_eq_true (by omega)
    have c7 : decide (((dig T L : Nat) : Int).toNat < (R.getD (L : Int).toNat (List.replicate 64 (some []))).length) = true := decide_eq_true (by rw [show (L : Int).toNat = L from by omega, hS.row L hL7]; omega)
    have c8 : ((R.getD (L : Int).toNat (List.replicate 64 (some []))).getD ((dig T L : Nat) : Int).toNat (some [])).isSome = true := hS.ful L _ hL7 hd
    have c9 : decide ((L : Int).toNat < (R.set (L : Int).toNat ((R.getD (L : Int).toNat (List.replicate 64 (some []))).set ((dig T L : Nat) : Int).toNat none)).length) = true := decide_eq_true (by rw [List.length_set, hS.len]; omega)
    have c10 : decide (((dig T L : Nat) : Int).toNat < ((R.set (L : Int).toNat ((R.getD (L : Int).toNat (List.replicate 64 (some []))).set ((dig T L : Nat) : Int).toNat none)).getD (L : Int).toNat (List.replicate 64 (some []))).length) = true := decide_eq_true (by
      have := set_row hS (l := (L : Int).toNat) (d := ((dig T L : Nat) : Int).toNat) (by omega) none
      rw [this]; omega)
    have e3 : ((R.getD (L : Int).toNat (List.replicate 64 (some []))).getD ((dig T L : Nat) : Int).toNat (some [])).getD [] = ringAt R L (dig T L) := rfl
    have e5 : (R.set (L : Int).toNat ((R.getD (L : Int).toNat (List.replicate 64 (some []))).set ((dig T L : Nat) : Int).toNat none)).set (L : Int).toNat (((R.set (L : Int).toNat ((R.getD (L : Int).toNat (List.replicate 64 (some []))).set ((dig T L : Nat) : Int).toNat none)).getD (L : Int).toNat (List.replicate 64 (some []))).set ((dig T L : Nat) : Int).toNat (some [])) = setR R L (dig T L) (some []) := set_set hS hL7 none (some [])
    simp only [lt, shr, wh, c1, if_true, e1, e2, Option.bind_some, c2, c3, c4, c5, c6, c7, c8, c9, c10, e3, e5, Bool.and_true, Bool.and_self]
    have h2' := h2
    simp only [wh] at h2'
    rw [show ((0 : Nat) : Int) = 0 from rfl] at h2'
    rw [h2']
    unfold d23_K3 d23_K2
    have e6 : IntKind.i64.wrap ((i : Int) + 1) = ((i + 1 : Nat) : Int) := by rw [wrap_in _ (by omega)]; omega
    simp only [e6]
    exact h4
/-- now goes on to a tick below which none runs out. -/
theorem d23_eq (k : Nat) (hk : 70000 ≤ k) (n to : Int) (m : MP) (R : RG) (hi : Inv n m R) (h1 : n ≤ to) (h2 : to ≤ top) (htk : ∀ id t, (id, t) ∈ m → to ≤ t) :
    ∃ R', d23 k (wh n m R, (to, ())) = some ((), (wh to m R', ())) ∧ Inv to m R' := by
  have hn := hi.now
  rw [top_eq] at h2
  obtain ⟨N, rfl⟩ : ∃ N : Nat, n = N := ⟨n.toNat, by omega⟩
  obtain ⟨T, rfl⟩ : ∃ T : Nat, to = T := ⟨to.toNat, by omega⟩
  have htk' : ∀ id t, (id, t) ∈ m → (T : Int) ≤ t ∧ t < top := fun id t h => ⟨htk id t h, (hi.tk id t h).2⟩
  obtain ⟨R', h3, h4⟩ := L6_run k hk N T (by omega) (by omega) m htk' 6 0 k R (by omega) (by omega) (hi.inv.congr fun id t ht => by
    obtain ⟨g1, g2⟩ := htk' id t ht
    rw [top_eq] at g2
    unfold posK
    rw [if_neg]
    intro hc
    have := lvl_le N t.toNat (by omega) (by omega)
    omega)
  refine ⟨R', h4, ⟨h3.congr fun id t ht => ?_, ⟨by omega, by rw [top_eq]; omega⟩, htk'⟩⟩
  obtain ⟨g1, g2⟩ := htk' id t ht
  rw [top_eq] at g2
  have f1 := lvl_spec N t.toNat (by omega) (by omega)
  unfold posK
  split
  · rfl
  · rename_i hc
    congr 1
    have hlv : Lv T t.toNat (lvl N t.toNat) := by
      by_cases h0 : lvl N t.toNat = 0
      · rw [h0] at f1 ⊢
        exact lv_zero f1 (by omega) (by omega)
      · refine lv_stay f1 (by omega) (by omega) fun e => hc ⟨by omega, e⟩
    have := lvl_eq (n := T) (t := t.toNat) (by omega) (by omega) hlv
    have a1 : lvl (T : Int).toNat t.toNat = lvl (N : Int).toNat t.toNat := this
    unfold slot
    rw [a1]
end Go.Proofs.Ytlagcpfboljhnaa.L
