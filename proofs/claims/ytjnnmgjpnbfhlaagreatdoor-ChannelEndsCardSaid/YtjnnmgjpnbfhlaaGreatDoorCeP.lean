import Derived.Test.YtjnnmgjpnbfhlaaGreatDoorCeJ
import Derived.Test.YtjnnmgjpnbfhlaaGreatDoorCeO1
namespace Go.Proofs.YtjnnmgjpnbfhlaaGreatDoor.L
open Go Go.RowKit Go.Lift
set_option linter.unusedVariables false
set_option linter.unusedSimpArgs false

abbrev ch0 : CH := ((0 : Int), ((0 : Int), (([] : List Int), ((0 : Int), ((0 : Int), ())))))
set_option maxRecDepth 100000 in
set_option maxHeartbeats 1000000 in
theorem it35_nil (n : Nat) (l xb ib : Nat) (A : Option Addr) (cap : Nat) (v : Value) (p : Nat → Bool) (J Jx : List Int → World → Prop) (W : World)
    (hbx : W.cell? ⟨xb, 2, none⟩ = some (.slice A 0 cap)) (h0 : J [] W) :
    CallsIn Fence.wide n Tryz.prog 35 #[.func (.yield l) #[] #[], .pointer (some ⟨xb, 0, none⟩), .pointer (some ⟨ib, 0, none⟩)] W fun e W' => (∃ v, e = .returned v) ∧
      (J (nums p 0) W' ∨ ∃ pre, stopped p 0 pre ∧ Jx pre W') := by
  refine callsIn_of_wp Tryz.func35 rfl trivial ?_ rfl
  simp only [Tryz.ntmps35, List.size_toArray, List.length_cons, List.length_nil, Nat.reduceAdd, Nat.reduceSub, Array.replicate_succ, Array.replicate_zero, List.push_toArray, List.append_toArray, List.nil_append, List.cons_append]
  gi_wp2
  gi_loopw [9] (fun i wr => i = .int .i64 0 ∧ J [] wr) (fun _ _ => 0)
  case atStart => exact ⟨rfl, h0⟩
  case round =>
    obtain ⟨rfl, hJs⟩ := hrel
    gi_wp2
    go_end0
    exact ⟨⟨_, rfl⟩, .inl hJs⟩

/-- A channel's cells. -/
theorem rz_ch {w : World} {S : Nat → Prop} {F : List Nat} {c : CH} {cs : List Value} (h : Rz w S kCH .sh F c cs) : ∃ A cap, cs = [.int .i64 c.1, .int .i64 c.2.1, .slice A c.2.2.1.length cap, .int .i64 c.2.2.2.1, .int .i64 c.2.2.2.2.1] := by
  obtain ⟨F1, F2, c1, c2, _, rfl, ⟨_, h1⟩, F3, F4, c3, c4, _, rfl, ⟨_, h2⟩, F5, F6, c5, c6, _, rfl, ⟨_, h3⟩, F7, F8, c7, c8, _, rfl, ⟨_, h4⟩, F9, F10, c9, c10, _, rfl, ⟨_, h5⟩, _, rfl⟩ := h
  have h1 := (h1.resolve_left fun h => by cases h.1).2
  have h2 := (h2.resolve_left fun h => by cases h.1).2
  obtain ⟨_, A, cap, h3, _⟩ := h3.resolve_left fun h => by cases h.1
  have h4 := (h4.resolve_left fun h => by cases h.1).2
  have h5 := (h5.resolve_left fun h => by cases h.1).2
  subst h1 h2 h3 h4 h5
  exact ⟨A, cap, rfl⟩
/-- An image's cells. -/
theorem rz_im {w : World} {S : Nat → Prop} {F : List Nat} {x : IM} {cs : List Value} (h : Rz w S kIM .sh F x cs) : ∃ A0 C0 A1 C1 A cap, cs = [.slice A0 x.1.length C0, .slice A1 x.2.1.length C1, .slice A x.2.2.1.length cap] ∧
    (Nl A cap x.2.2.1 ∨ ∃ b o cc, A = some ⟨b, o, none⟩ ∧ S b ∧ b < w.heap.size ∧ RzL (Rz w S kCH .sh) [] x.2.2.1 cc ∧ CellsAt w b o cc) := by
  obtain ⟨F1, F2, c1, c2, _, rfl, ⟨_, h1⟩, F3, F4, c3, c4, _, rfl, ⟨_, h2⟩, F5, F6, c5, c6, _, rfl, ⟨_, h3⟩, _, rfl⟩ := h
  obtain ⟨_, A0, C0, h1, _⟩ := h1.resolve_left fun h => by cases h.1
  obtain ⟨_, A1, C1, h2, _⟩ := h2.resolve_left fun h => by cases h.1
  obtain ⟨_, A, cap, h3, _, h4⟩ := h3.resolve_left fun h => by cases h.1
  subst h1 h2 h3
  exact ⟨A0, C0, A1, C1, A, cap, rfl, h4⟩
theorem nil_app {F1 F2 F3 : List Nat} (h : [] = F1 ++ (F2 ++ F3)) : F1 = [] ∧ F2 = [] ∧ F3 = [] := by
  cases F1 <;> cases F2 <;> simp_all
theorem seq35 (n : Nat) (hn : 1 ≤ n) (w : World) (S : Nat → Prop) (hS : ∀ b, S b → b < w.heap.size) (x : IM) (cs : List Value) (hz : Rz w S kIM .sh [] x cs) (xb ib g : Nat) (lb : Array Value) (p : CH → Bool) (hlen : x.2.2.1.length < 4611686018427387904)
    (hxb : xb < w.heap.size) (hib : ib < w.heap.size) (hcx : CellsAt w xb 0 cs) (hci : w.cell? ⟨ib, 0, none⟩ = some (.func (.func g) #[] lb))
    (he : ∀ args w, (callFunc g args).run Tryz.prog w = .ok (.enter g args) w)
    (hp : ∀ c, c ∈ x.2.2.1 → ∀ W', Below w.heap.size w W' → ∀ cc, Rz W' (Old W') kCH .sh [] c cc → Calls Tryz.prog g (#[.agg cc.toArray] ++ lb) W' fun e W'' => e = .returned (.bool (p c)) ∧ Below W'.heap.size W' W'') :
    ∀ w', Below w.heap.size w w' → SeqStopsK Fence.wide n Tryz.prog 35 #[.pointer (some ⟨xb, 0, none⟩), .pointer (some ⟨ib, 0, none⟩)] (fun x : Int => #[Value.int .i64 x]) (Below w.heap.size)
      (fun ys => ys = nums (fun j => p (x.2.2.1.getD j ch0)) x.2.2.1.length) (stopped (fun j => p (x.2.2.1.getD j ch0)) x.2.2.1.length) x.2.2.1.length w' := by
  intro w' hw l J Jx W hW hJ hJx hY h0
  have hWw : Below w.heap.size w W := hw.trans (hW.mono hw.size)
  obtain ⟨A0, C0, A1, C1, A, cap, rfl, hch⟩ := rz_im hz
  have hbx : W.cell? ⟨xb, 2, none⟩ = some (.slice A x.2.2.1.length cap) := (hWw.cell (p := ⟨xb, 2, none⟩) hxb).trans (hcx 2 _ rfl)
  have hbi : W.cell? ⟨ib, 0, none⟩ = some (.func (.func g) #[] lb) := (hWw.cell (p := ⟨ib, 0, none⟩) hib).trans hci
  rcases hch with ⟨hnil, _⟩ | ⟨b, o, cc, rfl, hSb, hb, hR, hC⟩
  · rw [hnil] at hbx ⊢
    refine (it35_nil n l xb ib A cap .nilIface (fun j => p (([] : List CH).getD j ch0)) J Jx W hbx h0).mono ?_
    rintro e W' ⟨h1, h2 | ⟨pre, h2, h3⟩⟩
    · exact ⟨h1, .inl ⟨_, rfl, h2⟩⟩
    · exact ⟨h1, .inr ⟨pre, h2, h3⟩⟩
  · have H : ∀ j, ∃ A C, (h : j < x.2.2.1.length) → ∃ c1 c c2, cc = c1 ++ (c ++ c2) ∧ c1.length = j * 5 ∧ Rz w S kCH .sh [] x.2.2.1[j] c ∧ c = [.int .i64 x.2.2.1[j].1, .int .i64 x.2.2.1[j].2.1, .slice A x.2.2.1[j].2.2.1.length C, .int .i64 x.2.2.1[j].2.2.2.1, .int .i64 x.2.2.1[j].2.2.2.2.1] := by
      intro j
      by_cases h : j < x.2.2.1.length
      · obtain ⟨F1, Fo, F2, c1, c, c2, hF, rfl, h1, h2, h3⟩ := hR.get h
        obtain ⟨rfl, rfl, rfl⟩ := nil_app hF
        obtain ⟨A, C, hc⟩ := rz_ch h2
        refine ⟨A, C, fun _ => ⟨c1, c, c2, rfl, ?_, h2, hc⟩⟩
        have := h1.len (fun F y c hy => Rz_len w S kCH .sh F y c hy)
        rw [List.length_take, Nat.min_eq_left (Nat.le_of_lt h)] at this
        exact this
      · exact ⟨none, 0, fun h' => absurd h' h⟩
    have H2 : ∃ (A : Nat → Option Addr) (C : Nat → Nat), ∀ j, (h : j < x.2.2.1.length) → ∃ c1 c c2, cc = c1 ++ (c ++ c2) ∧ c1.length = j * 5 ∧ Rz w S kCH .sh [] x.2.2.1[j] c ∧ c = [.int .i64 x.2.2.1[j].1, .int .i64 x.2.2.1[j].2.1, .slice (A j) x.2.2.1[j].2.2.1.length (C j), .int .i64 x.2.2.1[j].2.2.2.1, .int .i64 x.2.2.1[j].2.2.2.2.1] :=
      ⟨fun j => Classical.choose (H j), fun j => Classical.choose (Classical.choose_spec (H j)), fun j => Classical.choose_spec (Classical.choose_spec (H j))⟩
    obtain ⟨fA, fC, H3⟩ := H2
    have gd : ∀ j, (h : j < x.2.2.1.length) → x.2.2.1.getD j ch0 = x.2.2.1[j] := fun j h => by
      rw [List.getD_eq_getElem?_getD, List.getElem?_eq_getElem h]; rfl
    refine (it35 n hn l xb ib g w.heap.size b o x.2.2.1.length cap lb (fun j => (x.2.2.1.getD j ch0).1) (fun j => (x.2.2.1.getD j ch0).2.1) (fun j => (x.2.2.1.getD j ch0).2.2.2.1) (fun j => (x.2.2.1.getD j ch0).2.2.2.2.1) fA (fun j => (x.2.2.1.getD j ch0).2.2.1.length) fC
      (fun j => p (x.2.2.1.getD j ch0)) hlen hxb hib hb J Jx W hJ hY hWw.size hbx hbi ?_ he ?_ h0).mono ?_
    · intro j hj
      obtain ⟨c1, c, c2, rfl, h1, h2, h3⟩ := H3 j hj
      have at5 : ∀ q v, c[q]? = some v → W.cell? ⟨b, o + j * 5 + q, none⟩ = some v := by
        intro q v hq
        have hlt : q < c.length := by
          rcases Nat.lt_or_ge q c.length with h | h
          · exact h
          · rw [List.getElem?_eq_none h] at hq; cases hq
        refine (hWw.cell (p := ⟨b, _, none⟩) hb).trans ?_
        have := hC (j * 5 + q) v (by rw [List.getElem?_append_right (by omega), h1, show j * 5 + q - j * 5 = q by omega, List.getElem?_append_left hlt]; exact hq)
        rw [show o + j * 5 + q = o + (j * 5 + q) by omega]
        exact this
      rw [h3] at at5
      simp only [gd j hj]
      exact ⟨at5 0 _ rfl, at5 1 _ rfl, at5 2 _ rfl, at5 3 _ rfl, at5 4 _ rfl⟩
    · intro j hj W' hW'
      obtain ⟨c1, c, c2, hcc, h1, h2, h3⟩ := H3 j hj
      have hb' : Below w.heap.size w W' := hWw.trans hW'
      have hk : Kp w S W' (Old W') := ⟨hb'.size, fun q hq hlt => ⟨hb'.block q hlt, Nat.lt_of_lt_of_le hlt hb'.size⟩⟩
      have hr := Rz_keep hk kCH .sh [] x.2.2.1[j] c (by simp) h2
      have := hp _ (List.getElem_mem hj) W' hb' c hr
      simp only [gd j hj]
      rw [h3] at this
      exact this
    · rintro e W' ⟨h1, h2 | ⟨pre, h2, h3⟩⟩
      · exact ⟨h1, .inl ⟨_, rfl, h2⟩⟩
      · exact ⟨h1, .inr ⟨pre, h2, h3⟩⟩
set_option maxHeartbeats 1000000 in
theorem numbers18 (A0 A1 A : Option Addr) (L0 C0 L1 C1 L C g : Nat) (lb : Array Value) (w : World) :
    Calls Tryz.prog 18 #[.agg #[.slice A0 L0 C0, .slice A1 L1 C1, .slice A L C], .func (.func g) #[] lb] w fun e w' => e = .returned (.func (.func 35) #[] #[.pointer (some ⟨w.heap.size, 0, none⟩), .pointer (some ⟨w.heap.size + 1, 0, none⟩)]) ∧
      w' = (w.alloc (.cells #[.slice A0 L0 C0, .slice A1 L1 C1, .slice A L C] 26)).alloc (.cells #[.func (.func g) #[] lb] 50) := by
  go_enter Tryz.func18, Tryz.ntmps18
  go_wp2
  go_ret
  exact ⟨by simp, rfl⟩
end Go.Proofs.YtjnnmgjpnbfhlaaGreatDoor.L
