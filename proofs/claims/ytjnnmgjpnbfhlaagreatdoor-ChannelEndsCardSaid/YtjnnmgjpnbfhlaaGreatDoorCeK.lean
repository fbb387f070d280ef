import Derived.Test.YtjnnmgjpnbfhlaaGreatDoorCeQ
namespace Go.Proofs.YtjnnmgjpnbfhlaaGreatDoor.L
open Go Go.RowKit Go.Lift
set_option linter.unusedVariables false
set_option linter.unusedSimpArgs false

/-! ### the numbers that are told -/
theorem listN_snoc (p : CH → Bool) : ∀ (cs : List CH) (n : Nat) (c : CH), listN p n (cs ++ [c]) = listN p n cs ++ (if p c then [((n + cs.length : Nat) : Int) + 1] else []) := by
  intro cs
  induction cs with
  | nil => intro n c; cases h : p c <;> simp [listN, h]
  | cons a cs ih =>
    intro n c
    rw [List.cons_append, listN, listN, ih (n + 1) c, List.append_assoc, List.length_cons, show n + 1 + cs.length = n + (cs.length + 1) by omega]
theorem nums_take (p : CH → Bool) (cs : List CH) : ∀ k, k ≤ cs.length → nums (fun j => p (cs.getD j ch0)) k = listN p 0 (cs.take k) := by
  intro k
  induction k with
  | zero => intro _; rfl
  | succ k ih =>
    intro hk
    rw [nums_succ, ih (by omega), List.take_succ_eq_append_getElem (by omega), listN_snoc, List.length_take, Nat.min_eq_left (by omega), getD_mem (by omega)]
    simp
theorem nums_all (p : CH → Bool) (cs : List CH) : nums (fun j => p (cs.getD j ch0)) cs.length = listN p 0 cs := by
  rw [nums_take p cs _ (Nat.le_refl _), List.take_of_length_le (Nat.le_refl _)]
theorem find_head (p : CH → Bool) : ∀ (cs : List CH) (n : Nat), findN p n cs = (listN p n cs).headD 0 := by
  intro cs
  induction cs with
  | nil => intro n; rfl
  | cons c cs ih =>
    intro n
    rw [findN, listN]
    cases h : p c with
    | true => simp
    | false => simp [ih (n + 1)]
theorem nums_pre (p : Nat → Bool) (k : Nat) : ∀ m, ∃ r, nums p (k + m) = nums p k ++ r := by
  intro m
  induction m with
  | zero => exact ⟨[], by simp⟩
  | succ m ih =>
    obtain ⟨r, hr⟩ := ih
    exact ⟨r ++ (if p (k + m) then [((k + m : Nat) : Int) + 1] else []), by rw [← Nat.add_assoc, nums_succ, hr, List.append_assoc]⟩
theorem find_of {p : CH → Bool} {cs : List CH} {k : Nat} {x : Int} (hk : k < cs.length) (h : nums (fun j => p (cs.getD j ch0)) (k + 1) = [x]) : findN p 0 cs = x := by
  obtain ⟨r, hr⟩ := nums_pre (fun j => p (cs.getD j ch0)) (k + 1) (cs.length - (k + 1))
  rw [show k + 1 + (cs.length - (k + 1)) = cs.length by omega, nums_all, h] at hr
  rw [find_head, hr]; rfl
theorem find_none {p : CH → Bool} {cs : List CH} (h : nums (fun j => p (cs.getD j ch0)) cs.length = []) : findN p 0 cs = 0 := by
  rw [nums_all] at h
  rw [find_head, h]; rfl

theorem enters30 : ∀ args w, (callFunc 30 args).run Tryz.prog w = .ok (.enter 30 args) w := enters_of Tryz.func30 (by kernel_rfl) rfl
theorem enters31 : ∀ args w, (callFunc 31 args).run Tryz.prog w = .ok (.enter 31 args) w := enters_of Tryz.func31 (by kernel_rfl) rfl
theorem enters19 : ∀ args w, (callFunc 19 args).run Tryz.prog w = .ok (.enter 19 args) w := enters_of Tryz.func19 (by kernel_rfl) rfl
theorem enters21 : ∀ args w, (callFunc 21 args).run Tryz.prog w = .ok (.enter 21 args) w := enters_of Tryz.func21 (by kernel_rfl) rfl

theorem kp_below {w w' : World} {S : Nat → Prop} (h : Below w.heap.size w w') : Kp w S w' (Old w') := ⟨h.size, fun b _ hlt => ⟨h.block b hlt, Nat.lt_of_lt_of_le hlt h.size⟩⟩
theorem cellsAt_new (w : World) (cs : List Value) (t : TypeId) : CellsAt (w.alloc (.cells cs.toArray t)) w.heap.size 0 cs := by
  intro j v hj
  have := World.alloc_heap_new w (.cells cs.toArray t)
  simp only [World.cell?, this]
  simpa using hj

theorem two_new (wa : World) (cs : List Value) (v : Value) : Below wa.heap.size wa ((wa.alloc (.cells cs.toArray 26)).alloc (.cells #[v] 50)) ∧ CellsAt ((wa.alloc (.cells cs.toArray 26)).alloc (.cells #[v] 50)) wa.heap.size 0 cs ∧ ((wa.alloc (.cells cs.toArray 26)).alloc (.cells #[v] 50)).cell? ⟨wa.heap.size + 1, 0, none⟩ = some v := by
  refine ⟨((Below.refl _ wa).alloc (Nat.le_refl _) _).alloc (by simp) _, ?_, ?_⟩
  · have h := cellsAt_new wa cs 26
    refine h.keep ?_
    exact Below.heap_alloc _ _ _ (by simp)
  · have := (Boxed.new (wa.alloc (.cells cs.toArray 26)) 50 v).cell
    rwa [World.size_alloc] at this
theorem seq_new (n : Nat) (hn : 1 ≤ n) (wa : World) (S : Nat → Prop) (x : IM) (cs : List Value) (hz : Rz wa S kIM .sh [] x cs) (g : Nat) (lb : Array Value) (p : CH → Bool) (hlen : x.2.2.1.length < 4611686018427387904)
    (he : ∀ args w, (callFunc g args).run Tryz.prog w = .ok (.enter g args) w)
    (hp : ∀ c, c ∈ x.2.2.1 → ∀ W', Below wa.heap.size wa W' → ∀ cc, Rz W' (Old W') kCH .sh [] c cc → Calls Tryz.prog g (#[.agg cc.toArray] ++ lb) W' fun e W'' => e = .returned (.bool (p c)) ∧ Below W'.heap.size W' W'') :
    ∀ w', Below ((wa.alloc (.cells cs.toArray 26)).alloc (.cells #[.func (.func g) #[] lb] 50)).heap.size ((wa.alloc (.cells cs.toArray 26)).alloc (.cells #[.func (.func g) #[] lb] 50)) w' →
      SeqStopsK Fence.wide n Tryz.prog 35 #[.pointer (some ⟨wa.heap.size, 0, none⟩), .pointer (some ⟨wa.heap.size + 1, 0, none⟩)] (fun x : Int => #[Value.int .i64 x]) (Below ((wa.alloc (.cells cs.toArray 26)).alloc (.cells #[.func (.func g) #[] lb] 50)).heap.size)
      (fun ys => ys = nums (fun j => p (x.2.2.1.getD j ch0)) x.2.2.1.length) (stopped (fun j => p (x.2.2.1.getD j ch0)) x.2.2.1.length) x.2.2.1.length w' := by
  obtain ⟨h1, h2, h3⟩ := two_new wa cs (.func (.func g) #[] lb)
  refine seq35 n hn _ (Old _) (fun b hb => hb) x cs (Rz_keep (kp_below h1) kIM .sh [] x cs (by simp) hz) wa.heap.size (wa.heap.size + 1) g lb p hlen (by simp; omega) (by simp) h2 h3 he ?_
  intro c hc W' hW' cc hcc
  exact hp c hc W' (h1.trans (hW'.mono (by simp; omega))) cc hcc
theorem first_calls (wa : World) (S : Nat → Prop) (x : IM) (cs : List Value) (hz : Rz wa S kIM .sh [] x cs) (g : Nat) (lb : Array Value) (p : CH → Bool) (hlen : x.2.2.1.length < 4611686018427387904)
    (he : ∀ args w, (callFunc g args).run Tryz.prog w = .ok (.enter g args) w)
    (hp : ∀ c, c ∈ x.2.2.1 → ∀ W', Below wa.heap.size wa W' → ∀ cc, Rz W' (Old W') kCH .sh [] c cc → Calls Tryz.prog g (#[.agg cc.toArray] ++ lb) W' fun e W'' => e = .returned (.bool (p c)) ∧ Below W'.heap.size W' W'') :
    Calls Tryz.prog 29 #[.func (.func 35) #[] #[.pointer (some ⟨wa.heap.size, 0, none⟩), .pointer (some ⟨wa.heap.size + 1, 0, none⟩)]] ((wa.alloc (.cells cs.toArray 26)).alloc (.cells #[.func (.func g) #[] lb] 50)) fun e W' =>
      e = .returned (.int .i64 (findN p 0 x.2.2.1)) ∧ Below wa.heap.size wa W' := by
  obtain ⟨h1, h2, h3⟩ := two_new wa cs (.func (.func g) #[] lb)
  refine (callsIn_wide.1 (first_in 5 (by omega) _ _ _ _ (seq_new 4 (by omega) wa S x cs hz g lb p hlen he hp))).mono ?_
  rintro e W' ⟨⟨rfl, hnil⟩ | ⟨v, rfl, k, hk, _, hv⟩, hB⟩
  · exact ⟨by rw [find_none hnil], h1.trans (hB.mono (by simp; omega))⟩
  · exact ⟨by rw [find_of hk hv], h1.trans (hB.mono (by simp; omega))⟩
theorem gather_calls (wa : World) (S : Nat → Prop) (x : IM) (cs : List Value) (hz : Rz wa S kIM .sh [] x cs) (g : Nat) (lb : Array Value) (p : CH → Bool) (hlen : x.2.2.1.length ≤ 8796093022208)
    (he : ∀ args w, (callFunc g args).run Tryz.prog w = .ok (.enter g args) w)
    (hp : ∀ c, c ∈ x.2.2.1 → ∀ W', Below wa.heap.size wa W' → ∀ cc, Rz W' (Old W') kCH .sh [] c cc → Calls Tryz.prog g (#[.agg cc.toArray] ++ lb) W' fun e W'' => e = .returned (.bool (p c)) ∧ Below W'.heap.size W' W'') :
    Calls Tryz.prog 17 #[.func (.func 35) #[] #[.pointer (some ⟨wa.heap.size, 0, none⟩), .pointer (some ⟨wa.heap.size + 1, 0, none⟩)]] ((wa.alloc (.cells cs.toArray 26)).alloc (.cells #[.func (.func g) #[] lb] 50)) fun e W' =>
      ∃ v, e = .returned v ∧ W'.ownsRow wa.heap.size 3 1 v (listN p 0 x.2.2.1).length ((listN p 0 x.2.2.1).map (Value.int .i64)) ∧ Below wa.heap.size wa W' := by
  obtain ⟨h1, h2, h3⟩ := two_new wa cs (.func (.func g) #[] lb)
  refine (callsIn_wide.1 (gathered_in 5 (by omega) _ _ _ (by unfold maxLen; omega) (by omega) _ (seq_new 4 (by omega) wa S x cs hz g lb p (by omega) he hp))).mono ?_
  rintro e W' ⟨v, rfl, hrow, _, hB⟩
  rw [nums_all] at hrow
  refine ⟨v, rfl, ⟨hrow.1, ?_⟩, h1.trans (hB.mono (by simp; omega))⟩
  rcases hrow.2 with h | ⟨q, cap, cur, e1, e2, e3⟩
  · exact .inl h
  · exact .inr ⟨q, cap, cur, e1, by have := h1.size; omega, e3⟩

set_option maxRecDepth 100000 in
set_option maxHeartbeats 2000000 in
theorem from12 (w : World) (hG : GW w) (S : Nat → Prop) (x : IM) (cs : List Value) (hz : Rz w S kIM .sh [] x cs) (t : Int) (hs : sane x) :
    Calls Tryz.prog 12 #[.agg cs.toArray, .int .i64 t] w fun e w' => e = .returned (.int .i64 (if t < 1 then 0 else findN (fun c => c.2.1 == t) 0 x.2.2.1)) ∧ Below w.heap.size w w' := by
  obtain ⟨A0, C0, A1, C1, A, cap, hcs, _⟩ := rz_im hz
  subst hcs
  go_enter Tryz.func12, Tryz.ntmps12
  have hB0 : Below w.heap.size w ((w.alloc (.cells #[.slice A0 x.1.length C0, .slice A1 x.2.1.length C1, .slice A x.2.2.1.length cap] 26)).alloc (.cells #[.int .i64 t] 3)) := ((Below.refl _ w).alloc (Nat.le_refl _) _).alloc (by simp) _
  have hbx : ((w.alloc (.cells #[.slice A0 x.1.length C0, .slice A1 x.2.1.length C1, .slice A x.2.2.1.length cap] 26)).alloc (.cells #[.int .i64 t] 3)).cell? ⟨w.heap.size + 1, 0, none⟩ = some (.int .i64 t) := by
    have := (Boxed.new (w.alloc (.cells #[.slice A0 x.1.length C0, .slice A1 x.2.1.length C1, .slice A x.2.2.1.length cap] 26)) 3 (.int .i64 t)).cell
    rwa [World.size_alloc] at this
  have hz2 := Rz_keep (kp_below hB0) kIM .sh [] x _ (by simp) hz
  have hfc := first_calls _ _ x _ hz2 30 #[.pointer (some ⟨w.heap.size + 1, 0, none⟩)] (fun c => c.2.1 == t) (by have := hs.1; omega) enters30 (by
    intro c hc W' hW' cc hcc
    have hG' : GW W' := (hG.below hB0).below hW'
    exact call_pred ok30 (d := (c, (t, ()))) (vs := [.agg cc.toArray, .pointer (some ⟨w.heap.size + 1, 0, none⟩)]) hG' ⟨_, _, rfl, ⟨cc, rfl, hcc⟩, _, _, rfl, rz_box ((hW'.cell (p := ⟨w.heap.size + 1, 0, none⟩) (by simp)).trans hbx), rfl, rfl⟩ (d30_eq 0 c t))
  simp only [World.size_alloc] at hfc
  by_cases ht : t < 1
  · go_wp2
    go_ret
    exact ⟨rfl, hB0⟩
  · go_wp2_with (first | (go_at_call 18; refine (numbers18 _ _ _ _ _ _ _ _ _ _ _ _).mono ?_; rintro e w' ⟨rfl, rfl⟩) | (go_at_call 29; refine hfc.mono ?_; rintro e w' ⟨rfl, hB⟩))
    go_ret
    exact ⟨by simp [show ¬ t < 1 by omega], hB0.trans (hB.mono (by omega))⟩
set_option maxRecDepth 100000 in
set_option maxHeartbeats 2000000 in
theorem to13 (w : World) (hG : GW w) (S : Nat → Prop) (x : IM) (cs : List Value) (hz : Rz w S kIM .sh [] x cs) (t : Int) (hs : sane x) :
    Calls Tryz.prog 13 #[.agg cs.toArray, .int .i64 t] w fun e w' => e = .returned (.int .i64 (if t < 1 then 0 else findN (fun c => c.2.2.1.any (fun u => u == t)) 0 x.2.2.1)) ∧ Below w.heap.size w w' := by
  obtain ⟨A0, C0, A1, C1, A, cap, hcs, _⟩ := rz_im hz
  subst hcs
  go_enter Tryz.func13, Tryz.ntmps13
  have hB0 : Below w.heap.size w ((w.alloc (.cells #[.slice A0 x.1.length C0, .slice A1 x.2.1.length C1, .slice A x.2.2.1.length cap] 26)).alloc (.cells #[.int .i64 t] 3)) := ((Below.refl _ w).alloc (Nat.le_refl _) _).alloc (by simp) _
  have hbx : ((w.alloc (.cells #[.slice A0 x.1.length C0, .slice A1 x.2.1.length C1, .slice A x.2.2.1.length cap] 26)).alloc (.cells #[.int .i64 t] 3)).cell? ⟨w.heap.size + 1, 0, none⟩ = some (.int .i64 t) := by
    have := (Boxed.new (w.alloc (.cells #[.slice A0 x.1.length C0, .slice A1 x.2.1.length C1, .slice A x.2.2.1.length cap] 26)) 3 (.int .i64 t)).cell
    rwa [World.size_alloc] at this
  have hz2 := Rz_keep (kp_below hB0) kIM .sh [] x _ (by simp) hz
  have hfc := first_calls _ _ x _ hz2 31 #[.pointer (some ⟨w.heap.size + 1, 0, none⟩)] (fun c => c.2.2.1.any (fun u => u == t)) (by have := hs.1; omega) enters31 (by
    intro c hc W' hW' cc hcc
    have hG' : GW W' := (hG.below hB0).below hW'
    exact call_pred ok31 (d := (c, (t, ()))) (vs := [.agg cc.toArray, .pointer (some ⟨w.heap.size + 1, 0, none⟩)]) hG' ⟨_, _, rfl, ⟨cc, rfl, hcc⟩, _, _, rfl, rz_box ((hW'.cell (p := ⟨w.heap.size + 1, 0, none⟩) (by simp)).trans hbx), rfl, rfl⟩ (d31_eq (c.2.2.1.length + 1) c t (hs.2.2 c hc) (by omega)))
  simp only [World.size_alloc] at hfc
  by_cases ht : t < 1
  · go_wp2
    go_ret
    exact ⟨rfl, hB0⟩
  · go_wp2_with (first | (go_at_call 18; refine (numbers18 _ _ _ _ _ _ _ _ _ _ _ _).mono ?_; rintro e w' ⟨rfl, rfl⟩) | (go_at_call 29; refine hfc.mono ?_; rintro e w' ⟨rfl, hB⟩))
    go_ret
    exact ⟨by simp [show ¬ t < 1 by omega], hB0.trans (hB.mono (by omega))⟩
set_option maxRecDepth 100000 in
set_option maxHeartbeats 2000000 in
theorem out5 (w : World) (hG : GW w) (S : Nat → Prop) (x : IM) (cs : List Value) (hz : Rz w S kIM .sh [] x cs) (t : Int) (hs : sane x) :
    Calls Tryz.prog 5 #[.agg cs.toArray, .int .i64 t] w fun e w' => ∃ v, e = .returned v ∧ w'.ownsRow w.heap.size 3 1 v (listN (outB x t) 0 x.2.2.1).length ((listN (outB x t) 0 x.2.2.1).map (Value.int .i64)) ∧ Below w.heap.size w w' := by
  obtain ⟨A0, C0, A1, C1, A, cap, hcs, _⟩ := rz_im hz
  subst hcs
  go_enter Tryz.func5, Tryz.ntmps5
  have hB0 : Below w.heap.size w ((w.alloc (.cells #[.slice A0 x.1.length C0, .slice A1 x.2.1.length C1, .slice A x.2.2.1.length cap] 26)).alloc (.cells #[.int .i64 t] 3)) := ((Below.refl _ w).alloc (Nat.le_refl _) _).alloc (by simp) _
  have hbx : ((w.alloc (.cells #[.slice A0 x.1.length C0, .slice A1 x.2.1.length C1, .slice A x.2.2.1.length cap] 26)).alloc (.cells #[.int .i64 t] 3)).cell? ⟨w.heap.size + 1, 0, none⟩ = some (.int .i64 t) := by
    have := (Boxed.new (w.alloc (.cells #[.slice A0 x.1.length C0, .slice A1 x.2.1.length C1, .slice A x.2.2.1.length cap] 26)) 3 (.int .i64 t)).cell
    rwa [World.size_alloc] at this
  have hcx : CellsAt ((w.alloc (.cells #[.slice A0 x.1.length C0, .slice A1 x.2.1.length C1, .slice A x.2.2.1.length cap] 26)).alloc (.cells #[.int .i64 t] 3)) w.heap.size 0 [.slice A0 x.1.length C0, .slice A1 x.2.1.length C1, .slice A x.2.2.1.length cap] := by
    have h := cellsAt_new w [.slice A0 x.1.length C0, .slice A1 x.2.1.length C1, .slice A x.2.2.1.length cap] 26
    exact h.keep (Below.heap_alloc _ _ _ (by simp))
  have hz2 := Rz_keep (kp_below hB0) kIM .sh [] x _ (by simp) hz
  have hfc := gather_calls _ _ x _ hz2 19 #[.pointer (some ⟨w.heap.size + 1, 0, none⟩), .pointer (some ⟨w.heap.size, 0, none⟩)] (outB x t) hs.1 enters19 (by
    intro c hc W' hW' cc hcc
    have hG' : GW W' := (hG.below hB0).below hW'
    have hz3 := Rz_keep (kp_below hW') kIM .sh [] x _ (by simp) hz2
    have hcx3 := hcx.keep (hW'.block w.heap.size (by simp; omega))
    exact call_pred ok19 (d := (c, (t, (x, ())))) (vs := [.agg cc.toArray, .pointer (some ⟨w.heap.size + 1, 0, none⟩), .pointer (some ⟨w.heap.size, 0, none⟩)]) hG' ⟨_, _, rfl, ⟨cc, rfl, hcc⟩, _, _, rfl, rz_box ((hW'.cell (p := ⟨w.heap.size + 1, 0, none⟩) (by simp)).trans hbx), _, _, rfl, rz_boxI (Nat.lt_of_lt_of_le (by simp; omega) hW'.size) hcx3 hz3, rfl, rfl⟩ (d19_eq 0 c t x hs.2.1))
  simp only [World.size_alloc] at hfc
  go_wp2_with (first | (go_at_call 18; refine (numbers18 _ _ _ _ _ _ _ _ _ _ _ _).mono ?_; rintro e w' ⟨rfl, rfl⟩) | (go_at_call 17; refine hfc.mono ?_; rintro e w' ⟨v, rfl, hrow, hB⟩))
  go_ret
  refine ⟨v, rfl, ⟨hrow.1, ?_⟩, hB0.trans (hB.mono (by omega))⟩
  rcases hrow.2 with h | ⟨q, cap', cur, e1, e2, e3⟩
  · exact .inl h
  · exact .inr ⟨q, cap', cur, e1, by omega, e3⟩
set_option maxRecDepth 100000 in
set_option maxHeartbeats 2000000 in
theorem in6 (w : World) (hG : GW w) (S : Nat → Prop) (x : IM) (cs : List Value) (hz : Rz w S kIM .sh [] x cs) (t : Int) (hs : sane x) :
    Calls Tryz.prog 6 #[.agg cs.toArray, .int .i64 t] w fun e w' => ∃ v, e = .returned v ∧ w'.ownsRow w.heap.size 3 1 v (listN (inlB x t) 0 x.2.2.1).length ((listN (inlB x t) 0 x.2.2.1).map (Value.int .i64)) ∧ Below w.heap.size w w' := by
  obtain ⟨A0, C0, A1, C1, A, cap, hcs, _⟩ := rz_im hz
  subst hcs
  go_enter Tryz.func6, Tryz.ntmps6
  have hB0 : Below w.heap.size w ((w.alloc (.cells #[.slice A0 x.1.length C0, .slice A1 x.2.1.length C1, .slice A x.2.2.1.length cap] 26)).alloc (.cells #[.int .i64 t] 3)) := ((Below.refl _ w).alloc (Nat.le_refl _) _).alloc (by simp) _
  have hbx : ((w.alloc (.cells #[.slice A0 x.1.length C0, .slice A1 x.2.1.length C1, .slice A x.2.2.1.length cap] 26)).alloc (.cells #[.int .i64 t] 3)).cell? ⟨w.heap.size + 1, 0, none⟩ = some (.int .i64 t) := by
    have := (Boxed.new (w.alloc (.cells #[.slice A0 x.1.length C0, .slice A1 x.2.1.length C1, .slice A x.2.2.1.length cap] 26)) 3 (.int .i64 t)).cell
    rwa [World.size_alloc] at this
  have hcx : CellsAt ((w.alloc (.cells #[.slice A0 x.1.length C0, .slice A1 x.2.1.length C1, .slice A x.2.2.1.length cap] 26)).alloc (.cells #[.int .i64 t] 3)) w.heap.size 0 [.slice A0 x.1.length C0, .slice A1 x.2.1.length C1, .slice A x.2.2.1.length cap] := by
    have h := cellsAt_new w [.slice A0 x.1.length C0, .slice A1 x.2.1.length C1, .slice A x.2.2.1.length cap] 26
    exact h.keep (Below.heap_alloc _ _ _ (by simp))
  have hz2 := Rz_keep (kp_below hB0) kIM .sh [] x _ (by simp) hz
  have hfc := gather_calls _ _ x _ hz2 21 #[.pointer (some ⟨w.heap.size + 1, 0, none⟩), .pointer (some ⟨w.heap.size, 0, none⟩)] (inlB x t) hs.1 enters21 (by
    intro c hc W' hW' cc hcc
    have hG' : GW W' := (hG.below hB0).below hW'
    have hz3 := Rz_keep (kp_below hW') kIM .sh [] x _ (by simp) hz2
    have hcx3 := hcx.keep (hW'.block w.heap.size (by simp; omega))
    exact call_pred ok21 (d := (c, (t, (x, ())))) (vs := [.agg cc.toArray, .pointer (some ⟨w.heap.size + 1, 0, none⟩), .pointer (some ⟨w.heap.size, 0, none⟩)]) hG' ⟨_, _, rfl, ⟨cc, rfl, hcc⟩, _, _, rfl, rz_box ((hW'.cell (p := ⟨w.heap.size + 1, 0, none⟩) (by simp)).trans hbx), _, _, rfl, rz_boxI (Nat.lt_of_lt_of_le (by simp; omega) hW'.size) hcx3 hz3, rfl, rfl⟩ (d21_eq (c.2.2.1.length + 1) c t x hs.2.1 (hs.2.2 c hc) (by omega)))
  simp only [World.size_alloc] at hfc
  go_wp2_with (first | (go_at_call 18; refine (numbers18 _ _ _ _ _ _ _ _ _ _ _ _).mono ?_; rintro e w' ⟨rfl, rfl⟩) | (go_at_call 17; refine hfc.mono ?_; rintro e w' ⟨v, rfl, hrow, hB⟩))
  go_ret
  refine ⟨v, rfl, ⟨hrow.1, ?_⟩, hB0.trans (hB.mono (by omega))⟩
  rcases hrow.2 with h | ⟨q, cap', cur, e1, e2, e3⟩
  · exact .inl h
  · exact .inr ⟨q, cap', cur, e1, by omega, e3⟩

theorem ok12 : FnOk Tryz.prog GW 12 ⟨s12, d12⟩ := by
  refine fnOk_of rfl fun k (x : IM × (Int × Unit)) r hr w S vs hG ⟨v0, vs0, e0, ⟨cs0, c0, z0⟩, v1, vs1, e1, h1, hv⟩ => ?_
  obtain ⟨rfl, _⟩ := hv
  subst e0 e1
  obtain rfl := val_int h1
  have c0 : v0 = .agg cs0.toArray := c0
  subst c0
  have hr : d12 k x = some r := hr
  unfold d12 at hr
  split at hr <;> try (cases hr; done)
  rename_i hs
  obtain rfl := Option.some.inj hr
  exact (from12 w hG S x.1 cs0 z0 x.2.1 hs).mono fun e w' h2 => ⟨[.int .i64 _], [], h2.1, h2.2, List.nodup_nil, by simp, ⟨_, [], rfl, res_int _ _ _ _, rfl, rfl⟩⟩
theorem ok13 : FnOk Tryz.prog GW 13 ⟨s13, d13⟩ := by
  refine fnOk_of rfl fun k (x : IM × (Int × Unit)) r hr w S vs hG ⟨v0, vs0, e0, ⟨cs0, c0, z0⟩, v1, vs1, e1, h1, hv⟩ => ?_
  obtain ⟨rfl, _⟩ := hv
  subst e0 e1
  obtain rfl := val_int h1
  have c0 : v0 = .agg cs0.toArray := c0
  subst c0
  have hr : d13 k x = some r := hr
  unfold d13 at hr
  split at hr <;> try (cases hr; done)
  rename_i hs
  obtain rfl := Option.some.inj hr
  exact (to13 w hG S x.1 cs0 z0 x.2.1 hs).mono fun e w' h2 => ⟨[.int .i64 _], [], h2.1, h2.2, List.nodup_nil, by simp, ⟨_, [], rfl, res_int _ _ _ _, rfl, rfl⟩⟩
theorem ok5 : FnOk Tryz.prog GW 5 ⟨s5, d5⟩ := by
  refine fnOk_of rfl fun k (x : IM × (Int × Unit)) r hr w S vs hG ⟨v0, vs0, e0, ⟨cs0, c0, z0⟩, v1, vs1, e1, h1, hv⟩ => ?_
  obtain ⟨rfl, _⟩ := hv
  subst e0 e1
  obtain rfl := val_int h1
  have c0 : v0 = .agg cs0.toArray := c0
  subst c0
  have hr : d5 k x = some r := hr
  unfold d5 at hr
  split at hr <;> try (cases hr; done)
  rename_i hs
  obtain rfl := Option.some.inj hr
  refine (out5 w hG S x.1 cs0 z0 x.2.1 hs).mono fun e w' ⟨v, h1, hrow, hB⟩ => ?_
  obtain ⟨F', hnd, hge, hres⟩ := res_row (k := .int .i64) rfl hrow
  exact ⟨[v], F', h1, hB, hnd, hge, ⟨_, [], F', [], rfl, by simp, hres _, rfl, rfl⟩⟩
theorem ok6 : FnOk Tryz.prog GW 6 ⟨s6, d6⟩ := by
  refine fnOk_of rfl fun k (x : IM × (Int × Unit)) r hr w S vs hG ⟨v0, vs0, e0, ⟨cs0, c0, z0⟩, v1, vs1, e1, h1, hv⟩ => ?_
  obtain ⟨rfl, _⟩ := hv
  subst e0 e1
  obtain rfl := val_int h1
  have c0 : v0 = .agg cs0.toArray := c0
  subst c0
  have hr : d6 k x = some r := hr
  unfold d6 at hr
  split at hr <;> try (cases hr; done)
  rename_i hs
  obtain rfl := Option.some.inj hr
  refine (in6 w hG S x.1 cs0 z0 x.2.1 hs).mono fun e w' ⟨v, h1, hrow, hB⟩ => ?_
  obtain ⟨F', hnd, hge, hres⟩ := res_row (k := .int .i64) rfl hrow
  exact ⟨[v], F', h1, hB, hnd, hge, ⟨_, [], F', [], rfl, by simp, hres _, rfl, rfl⟩⟩
end Go.Proofs.YtjnnmgjpnbfhlaaGreatDoor.L
