import Derived.Test.YtlagcpfboljhnaaWhM6
namespace Go.Proofs.Ytlagcpfboljhnaa.L
open Go Go.Lift
set_option linter.unusedVariables false
set_option linter.unusedSimpArgs false
/-! ### Advance -/
theorem len_sub : ∀ (l1 l2 : List Int), l1.Nodup → (∀ x ∈ l1, x ∈ l2) → l1.length ≤ l2.length
  | [], _, _, _ => Nat.zero_le _
  | a :: l, l2, h, hs => by
    obtain ⟨h1, h2⟩ := List.nodup_cons.1 h
    have ha := hs a (List.mem_cons_self ..)
    have := len_sub l (l2.erase a) h2 fun x hx => (List.mem_erase_of_ne (by rintro rfl; exact h1 hx)).2 (hs x (List.mem_cons_of_mem _ hx))
    rw [List.length_erase_of_mem ha] at this
    have hp := List.length_pos_of_mem ha
    simp only [List.length_cons]
    omega
/-- By rising tick, then by rising number. -/
def Fb (a b : I2) : Prop := a.1 < b.1 ∨ (a.1 = b.1 ∧ a.2.1 < b.2.1)
theorem InvP.drop {m : MP} {R : RG} {pos : Int → Int → Option (Nat × Nat)} (h : InvP m R pos) {id t : Int} (hid : (id, t) ∈ m) (hp : pos id t = none) : InvP (mdel KI KI id m) R pos := by
  obtain ⟨k1, k2⟩ := mdel_mem h.keys (id := id)
  refine ⟨h.shp, k1, fun a b hab => h.dom a b ((k2 a b).1 hab).1, fun l d hl hd => ⟨(h.ring l d hl hd).1, fun a => ?_⟩⟩
  rw [(h.ring l d hl hd).2]
  constructor
  · rintro ⟨t', h3, h4⟩
    refine ⟨t', (k2 a t').2 ⟨h3, fun e => ?_⟩, h4⟩
    subst e
    rw [h.keys.uniq h3 hid, hp] at h4; cases h4
  · rintro ⟨t', h3, h4⟩
    exact ⟨t', ((k2 a t').1 h3).1, h4⟩
theorem sorted_lt {l : List Int} (h : l.Nodup) : (l.mergeSort fun x y => decide (x ≤ y)).Pairwise (· < ·) := by
  have h1 := List.pairwise_mergeSort (le := fun x y : Int => decide (x ≤ y)) (fun a b c h1 h2 => by simp at *; omega) (fun a b => by simp; omega) l
  have h2 : (l.mergeSort fun x y => decide (x ≤ y)).Pairwise (· ≠ ·) := (List.mergeSort_perm l _).nodup_iff.2 h
  exact (h1.and h2).imp fun {a b} ⟨h3, h4⟩ => by
    have h3 : a ≤ b := by simpa using h3
    omega
theorem A5_run (K : ((WH × (List I2 × Unit)) × (Int × Unit)) → Option ((List I2 × (Int × Unit)) × (WH × Unit))) (n tk to : Int) (R : RG) (ids : List Int) (hlen : ids.length ≤ 65536) :
    ∀ (c j f : Nat) (m : MP) (out : List I2) (pos : Int → Int → Option (Nat × Nat)), j + c = ids.length → c + 1 ≤ f → InvP m R pos → (ids.drop j).Nodup → (∀ id ∈ ids.drop j, (id, tk) ∈ m ∧ pos id tk = none) → out.length + c ≤ 200000 →
    ∃ m', InvP m' R pos ∧ (∀ a b, (a, b) ∈ m' ↔ (a, b) ∈ m ∧ a ∉ ids.drop j) ∧
      loopN (d7_L5 K) f ((wh n m R, (out, (ids, ()))), ((j : Int), (tk, (to, ((ids.length : Int), ()))))) = K ((wh n m' R, (out ++ (ids.drop j).map (fun id => ((tk, (id, ())) : I2)), ())), (to, ()))
  | 0, j, f + 1, m, out, pos, h, hf, hi, hn, hm, ho => by
    refine ⟨m, hi, fun a b => ?_, ?_⟩
    · rw [List.drop_eq_nil_of_le (by omega)]; simp
    · show d7_L5 K (loopN (d7_L5 K) f) _ = _
      unfold d7_L5
      have c1 : decide ((j : Int) < (ids.length : Int)) = false := decide_eq_false (by omega)
      simp only [lt, c1, Bool.false_eq_true, if_false]
      rw [List.drop_eq_nil_of_le (by omega)]
      simp
  | c + 1, j, f + 1, m, out, pos, h, hf, hi, hn, hm, ho => by
    have hj : j < ids.length := by omega
    have hdr := List.drop_eq_getElem_cons hj
    rw [hdr] at hn hm
    obtain ⟨hn1, hn2⟩ := List.nodup_cons.1 hn
    obtain ⟨k1, k2⟩ := hm _ (List.mem_cons_self ..)
    have hi2 := hi.drop k1 k2
    have hmm := (mdel_mem hi.keys (id := ids[j])).2
    obtain ⟨m', h1, h2, h3⟩ := A5_run K n tk to R ids hlen c (j + 1) f _ (out ++ [((tk, (ids[j], ())) : I2)]) pos (by omega) (by omega) hi2 hn2 (fun id hid => by
      obtain ⟨g1, g2⟩ := hm id (List.mem_cons_of_mem _ hid)
      exact ⟨(hmm _ _).2 ⟨g1, fun e => by subst e; exact hn1 hid⟩, g2⟩) (by simp; omega)
    refine ⟨m', h1, fun a b => ?_, ?_⟩
    · rw [h2, hmm, hdr, List.mem_cons]
      constructor
      · rintro ⟨⟨g1, g2⟩, g3⟩; exact ⟨g1, fun e => e.elim g2 g3⟩
      · rintro ⟨g1, g2⟩; exact ⟨⟨g1, fun e => g2 (.inl e)⟩, fun e => g2 (.inr e)⟩
    · have e0 : out ++ (ids.drop j).map (fun id => ((tk, (id, ())) : I2)) = (out ++ [((tk, (ids[j], ())) : I2)]) ++ (ids.drop (j + 1)).map (fun id => ((tk, (id, ())) : I2)) := by rw [hdr, List.map_cons, List.append_assoc]; rfl
      rw [e0, ← h3]
      show d7_L5 K (loopN (d7_L5 K) f) _ = _
      generalize loopN (d7_L5 K) f = G
      unfold d7_L5
      have c1 : decide ((j : Int) < (ids.length : Int)) = true := decide_eq_true (by omega)
      have c2 : decide ((0 : Int) ≤ (j : Int)) = true := decide_eq_true (by omega)
      have c3 : decide ((j : Int).toNat < ids.length) = true := decide_eq_true (by omega)
      have e2 : ids.getD (j : Int).toNat 0 = ids[j] := by simp [hj]
      have e4 : IntKind.i64.wrap ((j : Int) + 1) = ((j + 1 : Nat) : Int) := by rw [wrap_in _ (by omega)]; omega
      have c4 : appFits out.length ([((tk, (ids[j], ())) : I2)] : List I2).length 16 = true := by
        unfold appFits
        simp only [List.length_singleton, Bool.and_eq_true, decide_eq_true_eq]
        omega
      simp only [lt, shr, wh, c1, c2, c3, Bool.and_true, Bool.and_self, if_true, e2, c4, Option.isSome_some, Option.map_some, d7_K4, e4]
/-- What has run out by a tick. -/
structure Fired (m : MP) (to : Int) (out : List I2) : Prop where
  sorted : out.Pairwise Fb
  mem : ∀ t id, ((t, (id, ())) : I2) ∈ out ↔ (id, t) ∈ m ∧ t ≤ to
theorem slot_self {T t : Int} (h0 : 0 ≤ T) (h1 : T ≤ t) (h2 : t ≤ top) : slot T t = (0, dig T.toNat 0) ↔ t = T := by
  rw [top_eq] at h2
  constructor
  · intro e
    obtain ⟨e1, e2⟩ := Prod.mk.inj e
    have e1 : lvl T.toNat t.toNat = 0 := e1
    have e2 : dig t.toNat (lvl T.toNat t.toNat) = dig T.toNat 0 := e2
    have := lvl_spec T.toNat t.toNat (by omega) (by omega)
    rw [e1] at this e2
    have := lv_self this e2
    omega
  · rintro rfl
    have : lvl t.toNat t.toNat = 0 := lvl_eq (by omega) (by omega) ⟨rfl, .inl rfl⟩
    unfold slot
    rw [this]
theorem A6_run (k : Nat) (hk : 70000 ≤ k) (to : Int) (hto : to ≤ top) (m0 : MP) :
    ∀ (c f : Nat) (n : Int) (m : MP) (R : RG) (out : List I2), m.length ≤ c → c + 1 ≤ f → Inv n m R → n ≤ to → out.length + m.length ≤ 65536 →
      out.Pairwise Fb → (∀ t id, ((t, (id, ())) : I2) ∈ out → t ≤ to ∧ (id, t) ∈ m0 ∧ ∀ a b, (a, b) ∈ m → t < b) → (∀ id t, (id, t) ∈ m0 → (id, t) ∈ m ∨ ((t, (id, ())) : I2) ∈ out) → (∀ id t, (id, t) ∈ m → (id, t) ∈ m0) →
      ∃ m' R' out', loopN (d7_L6 k) f ((wh n m R, (out, ())), (to, ())) = some ((out', (0, ())), (wh to m' R', ())) ∧ Inv to m' R' ∧ Fired m0 to out' ∧ ∀ a b, (a, b) ∈ m' ↔ (a, b) ∈ m0 ∧ to < b
  | c, f + 1, n, m, R, out, hc, hf, hi, hn, hol, hs, ho, hm1, hm2 => by
    have last : (∀ a b, (a, b) ∈ m → to < b) → ∃ R', d23 k (wh n m R, (to, ())) = some ((), (wh to m R', ())) ∧ Inv to m R' ∧ Fired m0 to out ∧ ∀ a b, (a, b) ∈ m ↔ (a, b) ∈ m0 ∧ to < b := by
      intro hgt
      obtain ⟨R', h1, h2⟩ := d23_eq k hk n to m R hi hn hto fun a b h => Int.le_of_lt (hgt a b h)
      refine ⟨R', h1, h2, ⟨hs, fun t id => ⟨fun h => ⟨(ho t id h).2.1, (ho t id h).1⟩, fun ⟨h3, h4⟩ => ?_⟩⟩, fun a b => ⟨fun h => ⟨hm2 a b h, hgt a b h⟩, fun ⟨h3, h4⟩ => ?_⟩⟩
      · rcases hm1 id t h3 with h5 | h5
        · have := hgt id t h5; omega
        · exact h5
      · rcases hm1 a b h3 with h5 | h5
        · exact h5
        · have := (ho b a h5).1; omega
    rcases d12_eq k hk n m R hi with ⟨h1, h2⟩ | ⟨tk, ⟨id0, h0⟩, hle, h2⟩
    · obtain ⟨R', g1, g2, g3, g4⟩ := last (fun a b h => by rw [h1] at h; cases h)
      refine ⟨m, R', out, ?_, g2, g3, g4⟩
      show d7_L6 k (loopN (d7_L6 k) f) _ = _
      generalize loopN (d7_L6 k) f = G
      unfold d7_L6
      simp only [lt, shr, h2, Option.bind_some, Bool.not_false, if_true]
      rw [g1]
      rfl
    · by_cases hgt : to < tk
      · obtain ⟨R', g1, g2, g3, g4⟩ := last (fun a b h => by have := hle a b h; omega)
        refine ⟨m, R', out, ?_, g2, g3, g4⟩
        show d7_L6 k (loopN (d7_L6 k) f) _ = _
        generalize loopN (d7_L6 k) f = G
        unfold d7_L6
        have c1 : decide (tk > to) = true := decide_eq_true hgt
        simp only [lt, shr, h2, Option.bind_some, Bool.not_true, Bool.false_eq_true, if_false, c1, if_true]
        rw [g1]
        rfl
      · have htk := hi.tk id0 tk h0
        obtain ⟨R1, g1, g2⟩ := d23_eq k hk n tk m R hi htk.1 (by omega) hle
        have hS := g2.inv.shp
        have hd := dig_lt tk.toNat 0
        have hnow := g2.now
        have hring : ∀ id, id ∈ ringAt R1 0 (dig tk.toNat 0) ↔ (id, tk) ∈ m := by
          intro id
          rw [((g2.inv.ring 0 _ (by omega) hd).2)]
          constructor
          · rintro ⟨t, k1, k2⟩
            have := (slot_self hnow.1 (hle _ _ k1) (Int.le_of_lt (g2.tk _ _ k1).2)).1 (Option.some.inj k2)
            subst this; exact k1
          · intro k1
            exact ⟨tk, k1, by rw [(slot_self hnow.1 (Int.le_refl _) hnow.2).2 rfl]⟩
        have hnd := (g2.inv.ring 0 (dig tk.toNat 0) (by omega) hd).1
        have hlen := g2.inv.len (l := 0) (d := dig tk.toNat 0) (by omega) hd
        generalize hids : ((ringAt R1 0 (dig tk.toNat 0)).mergeSort fun x y => decide (x ≤ y)) = ids
        have hperm : ids.Perm (ringAt R1 0 (dig tk.toNat 0)) := by rw [← hids]; exact List.mergeSort_perm _ _
        have hsort : ids.Pairwise (· < ·) := by rw [← hids]; exact sorted_lt hnd
        have hidsnd : ids.Nodup := hperm.nodup_iff.2 hnd
        have hidslen : ids.length ≤ 65536 := by rw [hperm.length_eq]; exact hlen
        have hidsm : ∀ id, id ∈ ids ↔ (id, tk) ∈ m := fun id => hperm.mem_iff.trans (hring id)
        have hA := g2.inv.take (l := 0) (d := dig tk.toNat 0) (by omega) hd
        have hout : out.length + ids.length ≤ 200000 := by omega
        obtain ⟨m', k1, k2, k3⟩ := A5_run (d7_K3 (d7_K2 (loopN (d7_L6 k) f))) tk tk to (setR R1 0 (dig tk.toNat 0) (some [])) ids hidslen ids.length 0 k m out _ (by omega) (by omega) hA (by rw [List.drop_zero]; exact hidsnd) (fun id hid => by
          rw [List.drop_zero] at hid
          have := (hidsm id).1 hid
          exact ⟨this, by rw [if_pos (by rw [(slot_self hnow.1 (Int.le_refl _) hnow.2).2 rfl])]⟩) hout
        rw [List.drop_zero] at k2 k3
        have hm' : ∀ a b, (a, b) ∈ m' ↔ (a, b) ∈ m ∧ tk < b := by
          intro a b
          rw [k2, hidsm]
          constructor
          · rintro ⟨q1, q2⟩
            refine ⟨q1, ?_⟩
            have := hle a b q1
            rcases Int.lt_or_eq_of_le this with h | h
            · exact h
            · subst h; exact absurd q1 q2
          · rintro ⟨q1, q2⟩
            refine ⟨q1, fun q3 => ?_⟩
            have := hi.inv.keys.uniq q1 q3
            omega
        have hinv' : Inv tk m' (setR R1 0 (dig tk.toNat 0) (some [])) := by
          refine ⟨k1.congr fun a b hab => ?_, hnow, fun a b hab => g2.tk a b ((hm' a b).1 hab).1⟩
          obtain ⟨q1, q2⟩ := (hm' a b).1 hab
          rw [if_neg]
          intro e
          have := (slot_self hnow.1 (hle _ _ q1) (Int.le_of_lt (g2.tk _ _ q1).2)).1 (Option.some.inj e)
          omega
        -- fewer timers
        have hsub : (m'.map (·.1)).length + 1 ≤ (m.map (·.1)).length ∧ out.length + ids.length + m'.length ≤ out.length + m.length := by
          have hp : (ids ++ m'.map (·.1)).Nodup := by
            refine List.nodup_append.2 ⟨hidsnd, k1.keys, fun a ha b hb e => ?_⟩
            subst e
            obtain ⟨p, hp, rfl⟩ := List.mem_map.1 hb
            exact ((k2 p.1 p.2).1 hp).2 ha
          have hss : (ids ++ m'.map (·.1)) ⊆ m.map (·.1) := by
            intro a ha
            rcases List.mem_append.1 ha with ha | ha
            · exact List.mem_map.2 ⟨(a, tk), (hidsm a).1 ha, rfl⟩
            · obtain ⟨p, hp, rfl⟩ := List.mem_map.1 ha
              exact List.mem_map.2 ⟨p, ((hm' p.1 p.2).1 hp).1, rfl⟩
          have hlenle := len_sub _ _ hp hss
          have hpos : 1 ≤ ids.length := List.length_pos_of_mem ((hidsm id0).2 h0)
          simp only [List.length_append, List.length_map] at hlenle ⊢
          omega
        simp only [List.length_map] at hsub
        -- the list goes on rising
        have hs' : (out ++ ids.map (fun id => ((tk, (id, ())) : I2))).Pairwise Fb := by
          refine List.pairwise_append.2 ⟨hs, ?_, fun a ha b hb => ?_⟩
          · rw [List.pairwise_map]
            exact hsort.imp fun {x y} h => .inr ⟨rfl, h⟩
          · obtain ⟨id, hid, rfl⟩ := List.mem_map.1 hb
            obtain ⟨t, i, u⟩ := a
            exact .inl ((ho t i ha).2.2 id tk ((hidsm id).1 hid))
        obtain ⟨m2, R2, out2, q1, q2, q3, q4⟩ := A6_run k hk to hto m0 (c - 1) f tk m' (setR R1 0 (dig tk.toNat 0) (some [])) _ (by omega) (by omega) hinv' (by omega) (by simp; omega) hs' (fun t id h => by
            rcases List.mem_append.1 h with h | h
            · obtain ⟨q1, q2, q3⟩ := ho t id h
              exact ⟨q1, q2, fun a b hab => q3 a b ((hm' a b).1 hab).1⟩
            · obtain ⟨id', hid', e⟩ := List.mem_map.1 h
              obtain ⟨rfl, e2⟩ := Prod.mk.inj e
              obtain ⟨rfl, _⟩ := Prod.mk.inj e2
              exact ⟨by omega, hm2 _ _ ((hidsm _).1 hid'), fun a b hab => ((hm' a b).1 hab).2⟩) (fun id t h => by
            rcases hm1 id t h with h | h
            · by_cases e : t = tk
              · subst e
                exact .inr (List.mem_append_right _ (List.mem_map.2 ⟨id, (hidsm id).2 h, rfl⟩))
              · refine .inl ((hm' id t).2 ⟨h, ?_⟩)
                have := hle id t h
                omega
            · exact .inr (List.mem_append_left _ h)) (fun id t h => hm2 id t ((hm' id t).1 h).1)
        refine ⟨m2, R2, out2, ?_, q2, q3, q4⟩
        rw [← q1]
        show d7_L6 k (loopN (d7_L6 k) f) _ = _
        generalize loopN (d7_L6 k) f = G at k3 ⊢
        unfold d7_L6
        have c1 : decide (tk > to) = false := decide_eq_false (by omega)
        simp only [lt, shr, h2, Option.bind_some, Bool.not_true, Bool.false_eq_true, if_false, c1, g1]
        have hl0 : lvl tk.toNat tk.toNat = 0 := lvl_eq (by have := hnow.2; rw [top_eq] at this; omega) (by have := hnow.2; rw [top_eq] at this; omega) ⟨rfl, .inl rfl⟩
        have ht2 := hnow.2
        rw [top_eq] at ht2
        have c2 : decide (0 ≤ tk ∧ tk ≤ 1099511627776 ∧ 0 ≤ tk ∧ tk ≤ 1099511627776) = true := decide_eq_true ⟨hnow.1, ht2, hnow.1, ht2⟩
        have c3 : decide (0 < R1.length) = true := decide_eq_true (by rw [hS.len]; omega)
        have c4 : decide (dig tk.toNat 0 < (R1.getD 0 (List.replicate 64 (some []))).length) = true := decide_eq_true (by rw [hS.row 0 (by omega)]; omega)
        have c5 : ((R1.getD 0 (List.replicate 64 (some []))).getD (dig tk.toNat 0) (some [])).isSome = true := hS.ful 0 _ (by omega) hd
        have c6 : decide (0 < (R1.set 0 ((R1.getD 0 (List.replicate 64 (some []))).set (dig tk.toNat 0) none)).length) = true := decide_eq_true (by rw [List.length_set, hS.len]; omega)
        have c7 : decide (dig tk.toNat 0 < ((R1.set 0 ((R1.getD 0 (List.replicate 64 (some []))).set (dig tk.toNat 0) none)).getD 0 (List.replicate 64 (some []))).length) = true := decide_eq_true (by
          have := set_row hS (l := 0) (d := dig tk.toNat 0) (by omega) none
          rw [this]; omega)
        have e1 : ((R1.getD 0 (List.replicate 64 (some []))).getD (dig tk.toNat 0) (some [])).getD [] = ringAt R1 0 (dig tk.toNat 0) := rfl
        have e2 : d25 k (ringAt R1 0 (dig tk.toNat 0), ()) = some ((), (ids, ())) := by
          unfold d25
          rw [if_pos (by show (ringAt R1 0 (dig tk.toNat 0)).length < _; omega)]
          show some ((), ((ringAt R1 0 (dig tk.toNat 0)).mergeSort fun x y => decide (x ≤ y)), ()) = _
          rw [hids]
        have e3 := set_set hS (l := 0) (d := dig tk.toNat 0) (by omega) none (some [])
        simp only [wh, hl0, c2, c3, c4, c5, c6, c7, e1, e2, e3, Bool.and_true, Bool.and_self, if_true, Option.bind_some]
        rw [show (0 : Int) = ((0 : Nat) : Int) from rfl]
        simp only [wh] at k3
        rw [k3]
        rfl
/-- Advance. -/
theorem d7_eq (k : Nat) (hk : 70000 ≤ k) (n to : Int) (m : MP) (R : RG) (hi : Inv n m R) (h1 : n ≤ to) (h2 : to ≤ top) :
    ∃ m' R' out, d7 k (wh n m R, (to, ())) = some ((out, (0, ())), (wh to m' R', ())) ∧ Inv to m' R' ∧ Fired m to out ∧ ∀ a b, (a, b) ∈ m' ↔ (a, b) ∈ m ∧ to < b := by
  have hl := hi.inv.mlen
  obtain ⟨m', R', out, q1, q2, q3, q4⟩ := A6_run k hk to h2 m m.length k n m R [] (Nat.le_refl _) (by omega) hi h1 (by simpa using hl) List.Pairwise.nil (by simp) (fun id t h => .inl h) (fun id t h => h)
  refine ⟨m', R', out, ?_, q2, q3, q4⟩
  rw [top_eq] at h2
  unfold d7
  have c1 : decide (to < n) = false := decide_eq_false (by omega)
  have c2 : decide (to > 1099511627776) = false := decide_eq_false (by omega)
  simp only [lt, shr, wh, c1, c2, Bool.false_eq_true, if_false]
  exact q1
theorem d7_bad (k : Nat) (n to : Int) (m : MP) (R : RG) (h : to < n ∨ to > top) : d7 k (wh n m R, (to, ())) = some (([], (2, ())), (wh n m R, ())) := by
  rw [top_eq] at h
  unfold d7
  have : (if decide (to < n) = true then true else decide (to > 1099511627776)) = true := by
    by_cases h1 : to < n <;> by_cases h2 : to > 1099511627776 <;> simp_all
  simp only [lt, wh]
  rw [this, if_pos rfl]
end Go.Proofs.Ytlagcpfboljhnaa.L
