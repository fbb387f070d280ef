import Derived.Test.YtledeaknnihlmaaFaX6
import Derived.Test.YtledeaknnihlmaaFaO
import Derived.Test.YtledeaknnihlmaaLiftC
import Derived.Test.YtledeaknnihlmaaRows
namespace Go.Proofs.Ytledeaknnihlmaa
open Go Go.Lift Go.RowKit L
set_option linter.unusedVariables false
set_option linter.unusedSimpArgs false
set_option maxRecDepth 100000

theorem b2 : Try.prog.bytesOf 2 = 8 := by kernel_rfl
theorem b76 : Try.prog.bytesOf 76 = 8 := by kernel_rfl
theorem b78 : Try.prog.bytesOf 78 = 48 := by kernel_rfl
theorem b80 : Try.prog.bytesOf 80 = 16 := by kernel_rfl
theorem b82 : Try.prog.bytesOf 82 = 16 := by kernel_rfl
theorem b4 : Try.prog.bytesOf 4 = 1 := by kernel_rfl
theorem b53 : Try.prog.bytesOf 53 = 264 := by kernel_rfl
theorem b56 : Try.prog.bytesOf 56 = 48 := by kernel_rfl
theorem b42 : Try.prog.bytesOf 42 = 56 := by kernel_rfl
theorem b66 : Try.prog.bytesOf 66 = 48 := by kernel_rfl
theorem bytes3 : Try.prog.bytesOf 3 = 8 := by kernel_rfl
def wP (p : PA) : WP := (p.1, (p.2.1, (p.2.2.1, ((p.2.2.2.1, p.2.2.2.1.length), ((p.2.2.2.2.1, p.2.2.2.2.1.length), ((p.2.2.2.2.2.1, p.2.2.2.2.2.1.length), (p.2.2.2.2.2.2.1, (p.2.2.2.2.2.2.2.1, ((p.2.2.2.2.2.2.2.2.1, p.2.2.2.2.2.2.2.2.1.length), ((p.2.2.2.2.2.2.2.2.2.1, p.2.2.2.2.2.2.2.2.2.1.length), ((p.2.2.2.2.2.2.2.2.2.2.1, p.2.2.2.2.2.2.2.2.2.2.1.length), ())))))))))))
def wC (c : CH) : WC := (c.1, (c.2.1, ((c.2.2.1, c.2.2.1.length), c.2.2.2)))
def wI (x : IM) : WI := ((x.1.map wP, x.1.length), ((x.2.1, x.2.1.length), ((x.2.2.1.map wC, x.2.2.1.length), ())))
theorem wP_eq (p : PA) : toW kWP p = wP p :=
  Eq.trans (b := ((p.1, (p.2.1, (p.2.2.1, ((List.map (id : Int → Int) p.2.2.2.1, p.2.2.2.1.length), ((List.map (id : IS → IS) p.2.2.2.2.1, p.2.2.2.2.1.length), ((List.map (id : PC → PC) p.2.2.2.2.2.1, p.2.2.2.2.2.1.length), (p.2.2.2.2.2.2.1, (List.map (id : Int → Int) p.2.2.2.2.2.2.2.1, ((List.map (id : I2 → I2) p.2.2.2.2.2.2.2.2.1, p.2.2.2.2.2.2.2.2.1.length), ((List.map (id : Bool → Bool) p.2.2.2.2.2.2.2.2.2.1, p.2.2.2.2.2.2.2.2.2.1.length), ((List.map (id : I2 → I2) p.2.2.2.2.2.2.2.2.2.2.1, p.2.2.2.2.2.2.2.2.2.2.1.length), ()))))))))))) : WP)) rfl (by simp only [List.map_id, wP])
theorem wC_eq (c : CH) : toW kWC c = wC c :=
  Eq.trans (b := ((c.1, (c.2.1, ((List.map (id : Int → Int) c.2.2.1, c.2.2.1.length), c.2.2.2))) : WC)) rfl (by simp only [List.map_id, wC])
theorem wI_eq (x : IM) : toW kWI x = wI x := by
  have e1 : List.map (fun p : PA => (toW kWP p : WP)) x.1 = List.map wP x.1 := List.map_congr_left fun p _ => wP_eq p
  have e2 : List.map (fun c : CH => (toW kWC c : WC)) x.2.2.1 = List.map wC x.2.2.1 := List.map_congr_left fun c _ => wC_eq c
  refine Eq.trans (b := (((List.map (fun p : PA => (toW kWP p : WP)) x.1, x.1.length), ((List.map (id : PO → PO) x.2.1, x.2.1.length), ((List.map (fun c : CH => (toW kWC c : WC)) x.2.2.1, x.2.2.1.length), ()))) : WI)) rfl ?_
  rw [e1, e2, List.map_id]; rfl
def wN (x : IN) : WN := (x.1, (x.2.1, (x.2.2.1, ((x.2.2.2.1, x.2.2.2.1.length), x.2.2.2.2))))
def wL (l : List IN) : List WN × Nat := (l.map wN, l.length)
theorem wN_eq (c : IN) : toW kWN c = wN c :=
  Eq.trans (b := ((c.1, (c.2.1, (c.2.2.1, ((List.map (id : Int → Int) c.2.2.2.1, c.2.2.2.1.length), c.2.2.2.2)))) : WN)) rfl (by simp only [List.map_id, wN])
theorem wL_eq (l : List IN) : toW kLN l = wL l := by
  have e1 : List.map (fun p : IN => (toW kWN p : WN)) l = List.map wN l := List.map_congr_left fun p _ => wN_eq p
  refine Eq.trans (b := ((List.map (fun p : IN => (toW kWN p : WN)) l, l.length) : List WN × Nat)) rfl ?_
  rw [e1]; rfl
theorem sPw (p : PA) : sP (wP p) = p := by
  simp only [sP, wP, vwA]
theorem sCw (c : CH) : sC (wC c) = c := by
  simp only [sC, wC, vwA]
theorem sIw (x : IM) : sI (wI x) = x := by
  simp only [sI, wI, vwA, vwM, List.map_map]
  have e1 : sP ∘ wP = id := funext sPw
  have e2 : sC ∘ wC = id := funext sCw
  rw [e1, e2, List.map_id, List.map_id]
theorem rm {n b : Nat} (hb : 1 ≤ b) (h264 : b ≤ 264) (h : n * b ≤ reachBytes) : Rm n b := by
  unfold reachBytes at h
  have e : (n + 1) * b = n * b + b := Nat.succ_mul _ _
  have : n ≤ n * b := Nat.le_mul_of_pos_right _ hb
  exact ⟨by rw [e]; omega, by omega⟩
theorem rmI {x : IM} (h : okD Try.prog kIM x) : RmI (wI x) := by
  obtain ⟨⟨h1, h1'⟩, ⟨h2, _⟩, ⟨h3, h3'⟩, _⟩ := h
  rw [b53] at h1
  rw [b56] at h2
  rw [b42] at h3
  refine ⟨?_, ?_, ?_, fun p hp => ?_, fun c hc => ?_⟩
  · show Rm (Vw (x.1.map wP, x.1.length)).length 264
    rw [vwM, List.length_map]; exact rm (by decide) (by decide) h1
  · show Rm (Vw (x.2.1, x.2.1.length)).length 48
    rw [vwA]; exact rm (by decide) (by decide) h2
  · show Rm (Vw (x.2.2.1.map wC, x.2.2.1.length)).length 56
    rw [vwM, List.length_map]; exact rm (by decide) (by decide) h3
  · have hp : p ∈ Vw (x.1.map wP, x.1.length) := hp
    rw [vwM] at hp
    obtain ⟨q, hq, rfl⟩ := List.mem_map.1 hp
    obtain ⟨_, _, _, ⟨g1, _⟩, ⟨g2, _⟩, ⟨g3, _⟩, _, _, ⟨g4, _⟩, ⟨g5, _⟩, ⟨g6, _⟩, _⟩ := h1' q hq
    rw [b2] at g1
    rw [b76] at g2
    rw [b78] at g3
    rw [b80] at g4
    rw [b4] at g5
    rw [b82] at g6
    exact ⟨by show Rm (Vw (q.2.2.2.1, q.2.2.2.1.length)).length 8; rw [vwA]; exact rm (by decide) (by decide) g1,
      by show Rm (Vw (q.2.2.2.2.1, q.2.2.2.2.1.length)).length 8; rw [vwA]; exact rm (by decide) (by decide) g2,
      by show Rm (Vw (q.2.2.2.2.2.1, q.2.2.2.2.2.1.length)).length 48; rw [vwA]; exact rm (by decide) (by decide) g3,
      by show Rm (Vw (q.2.2.2.2.2.2.2.2.1, q.2.2.2.2.2.2.2.2.1.length)).length 16; rw [vwA]; exact rm (by decide) (by decide) g4,
      by show Rm (Vw (q.2.2.2.2.2.2.2.2.2.1, q.2.2.2.2.2.2.2.2.2.1.length)).length 1; rw [vwA]; exact rm (by decide) (by decide) g5,
      by show Rm (Vw (q.2.2.2.2.2.2.2.2.2.2.1, q.2.2.2.2.2.2.2.2.2.2.1.length)).length 16; rw [vwA]; exact rm (by decide) (by decide) g6⟩
  · have hc : c ∈ Vw (x.2.2.1.map wC, x.2.2.1.length) := hc
    rw [vwM] at hc
    obtain ⟨d, hd, rfl⟩ := List.mem_map.1 hc
    obtain ⟨_, _, ⟨g, _⟩, _⟩ := h3' d hd
    rw [bytes3] at g
    show Rm (Vw (d.2.2.1, d.2.2.1.length)).length 8
    rw [vwA]; exact rm (by decide) (by decide) g

theorem rmN {l : List IN} (h : okD Try.prog (.sl 66 kIN) l) : RmN (wL l) := by
  obtain ⟨h1, h1'⟩ := h
  have h1 : l.length * Try.prog.bytesOf 66 ≤ reachBytes := h1
  rw [b66] at h1
  refine ⟨?_, fun x hx => ?_⟩
  · show Rm (Vw (l.map wN, l.length)).length 48
    rw [vwM, List.length_map]; exact rm (by decide) (by decide) h1
  · have hx : x ∈ Vw (l.map wN, l.length) := hx
    rw [vwM] at hx
    obtain ⟨q, hq, rfl⟩ := List.mem_map.1 hx
    obtain ⟨_, _, _, ⟨g1, _⟩, _⟩ := h1' q hq
    have g1 : q.2.2.2.1.length * Try.prog.bytesOf 2 ≤ reachBytes := g1
    rw [b2] at g1
    show Rm (Vw (q.2.2.2.1, q.2.2.2.1.length)).length 8
    rw [vwA]; exact rm (by decide) (by decide) g1
theorem exB {α : Type} (f : α → Nat) : ∀ l : List α, ∃ k, ∀ p ∈ l, f p < k
  | [] => ⟨0, fun p h => by cases h⟩
  | a :: l => by
    obtain ⟨k, hk⟩ := exB f l
    refine ⟨k + f a + 1, fun p hp => ?_⟩
    rcases List.mem_cons.1 hp with rfl | hp
    · omega
    · have := hk p hp; omega
def lensP (p : WP) : Nat := (Vw p.2.2.2.1).length + (Vw p.2.2.2.2.1).length + (Vw p.2.2.2.2.2.1).length + (Vw p.2.2.2.2.2.2.2.2.1).length + (Vw p.2.2.2.2.2.2.2.2.2.1).length + (Vw p.2.2.2.2.2.2.2.2.2.2.1).length
theorem t3 (x : WI) : Vw (tI x).2.2.1 = ((Vw x.2.2.1).take 70).map tC := vwM _ _
theorem rmT {x : WI} (h : RmI x) : RmI (tI x) := by
  have e1 : Vw (tI x).1 = (Vw x.1).take 40 := tQ_vw _ _
  have e2 : Vw (tI x).2.1 = (Vw x.2.1).take 70 := tQ_vw _ _
  refine ⟨by rw [e1, List.length_take]; exact h.p.mono (by omega), by rw [e2, List.length_take]; exact h.q.mono (by omega), by rw [t3, List.length_map, List.length_take]; exact h.c.mono (by omega), fun p hp => ?_, fun c hc => ?_⟩
  · rw [e1] at hp
    exact h.ps p (List.mem_of_mem_take hp)
  · rw [t3] at hc
    obtain ⟨q, hq, rfl⟩ := List.mem_map.1 hc
    rw [show Vw (tC q).2.2.1 = (Vw q.2.2.1).take 70 from tQ_vw _ _, List.length_take]
    exact (h.cs q (List.mem_of_mem_take hq)).mono (by omega)
theorem fitT {x : WI} (h : RmI x) {k : Nat} (hk : 71 < k) (hl : ∀ p ∈ Vw x.1, lensP p < k) : FitI k (sI (tI x)) := by
  have e1 : Vw (tI x).1 = (Vw x.1).take 40 := tQ_vw _ _
  have e2 : Vw (tI x).2.1 = (Vw x.2.1).take 70 := tQ_vw _ _
  refine ⟨hk, ⟨?_, ?_, ?_, fun c hc => ?_⟩, fun p hp => ?_⟩
  · show ((Vw (tI x).1).map sP).length ≤ 40
    rw [e1, List.length_map, List.length_take]; omega
  · show (Vw (tI x).2.1).length ≤ 70
    rw [e2, List.length_take]; omega
  · show ((Vw (tI x).2.2.1).map sC).length ≤ 70
    rw [t3, List.length_map, List.length_map, List.length_take]; omega
  · have hc : c ∈ (Vw (tI x).2.2.1).map sC := hc
    obtain ⟨d, hd, rfl⟩ := List.mem_map.1 hc
    rw [t3] at hd
    obtain ⟨q, hq, rfl⟩ := List.mem_map.1 hd
    show (Vw (tC q).2.2.1).length ≤ 70
    rw [show Vw (tC q).2.2.1 = (Vw q.2.2.1).take 70 from tQ_vw _ _, List.length_take]; omega
  · have hp : p ∈ (Vw (tI x).1).map sP := hp
    obtain ⟨q, hq, rfl⟩ := List.mem_map.1 hp
    rw [e1] at hq
    have hq := List.mem_of_mem_take hq
    have r := h.ps q hq
    have l := hl q hq
    unfold lensP at l
    have i1 := r.i.2
    have i2 := r.c.2
    have i3 := r.r.2
    have i4 := r.s.2
    have i5 := r.e.2
    have i6 := r.b.2
    exact ⟨⟨by show (Vw q.2.2.2.1).length < k; omega, by show (Vw q.2.2.2.1).length < _; omega⟩, ⟨by show (Vw q.2.2.2.2.1).length < k; omega, by show (Vw q.2.2.2.2.1).length < _; omega⟩, ⟨by show (Vw q.2.2.2.2.2.1).length < k; omega, by show (Vw q.2.2.2.2.2.1).length < _; omega⟩,
      ⟨by show (Vw q.2.2.2.2.2.2.2.2.1).length < k; omega, by show (Vw q.2.2.2.2.2.2.2.2.1).length < _; omega⟩, ⟨by show (Vw q.2.2.2.2.2.2.2.2.2.1).length < k; omega, by show (Vw q.2.2.2.2.2.2.2.2.2.1).length < _; omega⟩, ⟨by show (Vw q.2.2.2.2.2.2.2.2.2.2.1).length < k; omega, by show (Vw q.2.2.2.2.2.2.2.2.2.2.1).length < _; omega⟩⟩
theorem tl1 (x : WI) : (Vw (tI x).1).length ≤ 40 := by rw [show Vw (tI x).1 = (Vw x.1).take 40 from tQ_vw _ _, List.length_take]; omega
theorem tl3 (x : WI) : (Vw (tI x).2.2.1).length ≤ 70 := by rw [t3, List.length_map, List.length_take]; omega
theorem law_true {x y : WI} (hx : RmI x) (hy : RmI y) {z z2 : List WN × Nat} (hz : RmN z) (hz2 : RmN z2) (part : Int) : ∃ k, d3 k (x, (y, (z, (z2, (part, ()))))) = some ((true, ()), ()) := by
  obtain ⟨k1, h1⟩ := exB lensP (Vw x.1)
  obtain ⟨k2, h2⟩ := exB lensP (Vw y.1)
  obtain ⟨k3, h3⟩ := exB (fun x : WN => (Vw x.2.2.2.1).length) (Vw z)
  obtain ⟨k4, h4⟩ := exB (fun x : WN => (Vw x.2.2.2.1).length) (Vw z2)
  refine ⟨72 + k1 + k2 + k3 + k4 + (Vw z).length + (Vw z2).length, ?_⟩
  have t1 := tl1 x
  have t2 := tl1 y
  have t4 := tl3 x
  have t5 := tl3 y
  exact d3_val _ x y (tI x) (tI y) (d4_val _ (by omega) x hx.c) (d4_val _ (by omega) y hy.c) (rmT hx) (rmT hy) (fitT hx (by omega) fun p hp => by have := h1 p hp; omega) (fitT hy (by omega) fun p hp => by have := h2 p hp; omega) z z2 hz hz2 (by omega) (by omega) (by omega) (by omega) (by omega) (by omega)
    (fun x hx => by have q : (Vw x.2.2.2.1).length < k3 := h3 x hx; omega) (fun x hx => by have q : (Vw x.2.2.2.1).length < k4 := h4 x hx; omega) part
theorem flowAlikes_any {H : Type} (enc : TypeId × Value → H) (W : World) {base : Nat} {v0 v1 v2 v3 v4 : Value} {d0 d1 d2 d3 d4 : DataW H} {p0 p1 p2 p3 p4 : List MemPlace}
    (o0 : Value.okWide Try.prog W .any base 26 v0) (h0 : DataW.Trod enc Try.prog W 0 (fun _ => true) true 26 v0 d0 p0) (o1 : Value.okWide Try.prog W .any base 26 v1) (h1 : DataW.Trod enc Try.prog W 0 (fun _ => true) true 26 v1 d1 p1)
    (o2 : Value.okWide Try.prog W .any base 27 v2) (h2 : DataW.Trod enc Try.prog W 0 (fun _ => true) true 27 v2 d2 p2) (o3 : Value.okWide Try.prog W .any base 27 v3) (h3 : DataW.Trod enc Try.prog W 0 (fun _ => true) true 27 v3 d3 p3)
    (o4 : Value.okWide Try.prog W .any base 3 v4) (h4 : DataW.Trod enc Try.prog W 0 (fun _ => true) true 3 v4 d4 p4)
    (hsz : ∀ x ∈ DataW.weightsEach Try.prog [26, 26, 27, 27, 3] [d0, d1, d2, d3, d4], x ≤ reachBytes) (hL : laidMetH Try.prog Rows.flowAlikesRow.laid W) :
    Calls Try.prog 3 #[v0, v1, v2, v3, v4] W fun e w' => e = .returned (.bool true) ∧ Below W.heap.size W w' := by
  simp only [DataW.weightsEach, List.append_nil, List.mem_append] at hsz
  obtain ⟨x0, a0, k0, _⟩ := open_arg (n := 8) (k := kIM) (by kernel_rfl) o0 h0 (fun x hx => hsz x (.inl hx))
  obtain ⟨x1, a1, k1, _⟩ := open_arg (n := 8) (k := kIM) (by kernel_rfl) o1 h1 (fun x hx => hsz x (.inr (.inl hx)))
  obtain ⟨x2, a2, k2, _⟩ := open_arg (n := 8) (k := .sl 66 kIN) (by kernel_rfl) o2 h2 (fun x hx => hsz x (.inr (.inr (.inl hx))))
  obtain ⟨x3, a3, k3, _⟩ := open_arg (n := 8) (k := .sl 66 kIN) (by kernel_rfl) o3 h3 (fun x hx => hsz x (.inr (.inr (.inr (.inl hx)))))
  obtain ⟨x4, a4, k4, _⟩ := open_arg (n := 6) (k := .int .i64) (by kernel_rfl) o4 h4 (fun x hx => hsz x (.inr (.inr (.inr (.inr hx)))))
  obtain ⟨cs0, c0, z0⟩ := a0
  obtain ⟨cs1, c1, z1⟩ := a1
  obtain ⟨cs2, c2, z2⟩ := a2
  obtain ⟨cs3, c3, z3⟩ := a3
  have a0' : ∃ cs, Shows kWI v0 cs ∧ Rz W (Old W) kWI .sh [] (wI x0) cs := ⟨cs0, shows_toW (k := kWI) c0, by rw [← wI_eq]; exact Rz_toW kWI x0 cs0 z0⟩
  have a1' : ∃ cs, Shows kWI v1 cs ∧ Rz W (Old W) kWI .sh [] (wI x1) cs := ⟨cs1, shows_toW (k := kWI) c1, by rw [← wI_eq]; exact Rz_toW kWI x1 cs1 z1⟩
  have a2' : ∃ cs, Shows kLN v2 cs ∧ Rz W (Old W) kLN .sh [] (wL x2) cs := ⟨cs2, shows_toW (k := kLN) c2, by rw [← wL_eq]; exact Rz_toW kLN x2 cs2 z2⟩
  have a3' : ∃ cs, Shows kLN v3 cs ∧ Rz W (Old W) kLN .sh [] (wL x3) cs := ⟨cs3, shows_toW (k := kLN) c3, by rw [← wL_eq]; exact Rz_toW kLN x3 cs3 z3⟩
  obtain ⟨k, hk⟩ := law_true (rmI k0) (rmI k1) (rmN k2) (rmN k3) x4
  exact law_calls ok3 rfl (fun w' hb => trivial) (vs := [v0, v1, v2, v3, v4]) ⟨_, _, rfl, a0', _, _, rfl, a1', _, _, rfl, a2', _, _, rfl, a3', _, _, rfl, a4, rfl, rfl⟩ hk rfl
end Go.Proofs.Ytledeaknnihlmaa
