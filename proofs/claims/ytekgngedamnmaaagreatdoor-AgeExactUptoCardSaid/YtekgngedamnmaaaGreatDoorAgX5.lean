import Derived.Test.YtekgngedamnmaaaGreatDoorAgX4
import Derived.Test.YtekgngedamnmaaaGreatDoorAgEO
import Derived.Test.YtekgngedamnmaaaGreatDoorAgF
import Derived.Test.YtekgngedamnmaaaGreatDoorLiftC
namespace Go.Proofs.YtekgngedamnmaaaGreatDoor
open Go Go.Lift Go.RowKit L
set_option linter.unusedVariables false
set_option linter.unusedSimpArgs false
set_option maxRecDepth 100000

theorem b2 : Tryz.prog.bytesOf 2 = 8 := by kernel_rfl
theorem b100 : Tryz.prog.bytesOf 100 = 8 := by kernel_rfl
theorem b68 : Tryz.prog.bytesOf 68 = 48 := by kernel_rfl
theorem b105 : Tryz.prog.bytesOf 105 = 16 := by kernel_rfl
theorem b107 : Tryz.prog.bytesOf 107 = 16 := by kernel_rfl
theorem b4 : Tryz.prog.bytesOf 4 = 1 := by kernel_rfl
theorem b64 : Tryz.prog.bytesOf 64 = 264 := by kernel_rfl
theorem b41 : Tryz.prog.bytesOf 41 = 48 := by kernel_rfl
theorem b34 : Tryz.prog.bytesOf 34 = 56 := by kernel_rfl
def wP (p : PT) : WP := (p.1, (p.2.1, (p.2.2.1, ((p.2.2.2.1, p.2.2.2.1.length), ((p.2.2.2.2.1, p.2.2.2.2.1.length), ((p.2.2.2.2.2.1, p.2.2.2.2.2.1.length), (p.2.2.2.2.2.2.1, (p.2.2.2.2.2.2.2.1, ((p.2.2.2.2.2.2.2.2.1, p.2.2.2.2.2.2.2.2.1.length), ((p.2.2.2.2.2.2.2.2.2.1, p.2.2.2.2.2.2.2.2.2.1.length), ((p.2.2.2.2.2.2.2.2.2.2.1, p.2.2.2.2.2.2.2.2.2.2.1.length), ())))))))))))
def wC (c : CH) : WC := (c.1, (c.2.1, ((c.2.2.1, c.2.2.1.length), c.2.2.2)))
def wI (x : IM) : WI := ((x.1.map wP, x.1.length), ((x.2.1, x.2.1.length), ((x.2.2.1.map wC, x.2.2.1.length), ())))
theorem wP_eq (p : PT) : toW kWP p = wP p :=
  Eq.trans (b := ((p.1, (p.2.1, (p.2.2.1, ((List.map (id : Int → Int) p.2.2.2.1, p.2.2.2.1.length), ((List.map (id : IS → IS) p.2.2.2.2.1, p.2.2.2.2.1.length), ((List.map (id : PC → PC) p.2.2.2.2.2.1, p.2.2.2.2.2.1.length), (p.2.2.2.2.2.2.1, (List.map (id : Int → Int) p.2.2.2.2.2.2.2.1, ((List.map (id : I2 → I2) p.2.2.2.2.2.2.2.2.1, p.2.2.2.2.2.2.2.2.1.length), ((List.map (id : Bool → Bool) p.2.2.2.2.2.2.2.2.2.1, p.2.2.2.2.2.2.2.2.2.1.length), ((List.map (id : I2 → I2) p.2.2.2.2.2.2.2.2.2.2.1, p.2.2.2.2.2.2.2.2.2.2.1.length), ()))))))))))) : WP)) rfl (by simp only [List.map_id, wP])
theorem wC_eq (c : CH) : toW kWC c = wC c :=
  Eq.trans (b := ((c.1, (c.2.1, ((List.map (id : Int → Int) c.2.2.1, c.2.2.1.length), c.2.2.2))) : WC)) rfl (by simp only [List.map_id, wC])
theorem wI_eq (x : IM) : toW kWI x = wI x := by
  have e1 : List.map (fun p : PT => (toW kWP p : WP)) x.1 = List.map wP x.1 := List.map_congr_left fun p _ => wP_eq p
  have e2 : List.map (fun c : CH => (toW kWC c : WC)) x.2.2.1 = List.map wC x.2.2.1 := List.map_congr_left fun c _ => wC_eq c
  refine Eq.trans (b := (((List.map (fun p : PT => (toW kWP p : WP)) x.1, x.1.length), ((List.map (id : PQ → PQ) x.2.1, x.2.1.length), ((List.map (fun c : CH => (toW kWC c : WC)) x.2.2.1, x.2.2.1.length), ()))) : WI)) rfl ?_
  rw [e1, e2, List.map_id]; rfl
theorem vwA {α : Type} (l : List α) : Vw (l, l.length) = l := List.take_length
theorem vwM {α β : Type} (f : α → β) (l : List α) : Vw (l.map f, l.length) = l.map f := List.take_of_length_le (by rw [List.length_map]; exact Nat.le_refl _)
theorem sPw (p : PT) : sP (wP p) = p := by
  simp only [sP, wP, vwA]
theorem sCw (c : CH) : sC (wC c) = c := by
  simp only [sC, wC, vwA]
theorem sIw (x : IM) : sI (wI x) = x := by
  simp only [sI, wI, vwA, vwM, List.map_map]
  have e1 : sP ∘ wP = id := funext sPw
  have e2 : sC ∘ wC = id := funext sCw
  rw [e1, e2, List.map_id, List.map_id]
theorem rm {n b : Nat} (hb : 1 ≤ b) (h264 : b ≤ 264) (h : n * b ≤ reachBytes) : Rm n b := by
  unfold reachBytes at h
  have e : (n + 1) * b = n * b + b := Nat.succ_mul _ _
  have : n ≤ n * b := Nat.le_mul_of_pos_right _ hb
  exact ⟨by rw [e]; omega, by omega⟩
theorem rmI {x : IM} (h : okD Tryz.prog kIM x) : RmI (wI x) := by
  obtain ⟨⟨h1, h1'⟩, ⟨h2, _⟩, ⟨h3, h3'⟩, _⟩ := h
  rw [b64] at h1
  rw [b41] at h2
  rw [b34] at h3
  refine ⟨?_, ?_, ?_, fun p hp => ?_, fun c hc => ?_⟩
  · show Rm (Vw (x.1.map wP, x.1.length)).length 264
    rw [vwM, List.length_map]; exact rm (by decide) (by decide) h1
  · show Rm (Vw (x.2.1, x.2.1.length)).length 48
    rw [vwA]; exact rm (by decide) (by decide) h2
  · show Rm (Vw (x.2.2.1.map wC, x.2.2.1.length)).length 56
    rw [vwM, List.length_map]; exact rm (by decide) (by decide) h3
  · have hp : p ∈ Vw (x.1.map wP, x.1.length) := hp
    rw [vwM] at hp
    obtain ⟨q, hq, rfl⟩ := List.mem_map.1 hp
    obtain ⟨_, _, _, ⟨g1, _⟩, ⟨g2, _⟩, ⟨g3, _⟩, _, _, ⟨g4, _⟩, ⟨g5, _⟩, ⟨g6, _⟩, _⟩ := h1' q hq
    rw [b2] at g1
    rw [b100] at g2
    rw [b68] at g3
    rw [b105] at g4
    rw [b4] at g5
    rw [b107] at g6
    exact ⟨by show Rm (Vw (q.2.2.2.1, q.2.2.2.1.length)).length 8; rw [vwA]; exact rm (by decide) (by decide) g1,
      by show Rm (Vw (q.2.2.2.2.1, q.2.2.2.2.1.length)).length 8; rw [vwA]; exact rm (by decide) (by decide) g2,
      by show Rm (Vw (q.2.2.2.2.2.1, q.2.2.2.2.2.1.length)).length 48; rw [vwA]; exact rm (by decide) (by decide) g3,
      by show Rm (Vw (q.2.2.2.2.2.2.2.2.1, q.2.2.2.2.2.2.2.2.1.length)).length 16; rw [vwA]; exact rm (by decide) (by decide) g4,
      by show Rm (Vw (q.2.2.2.2.2.2.2.2.2.1, q.2.2.2.2.2.2.2.2.2.1.length)).length 1; rw [vwA]; exact rm (by decide) (by decide) g5,
      by show Rm (Vw (q.2.2.2.2.2.2.2.2.2.2.1, q.2.2.2.2.2.2.2.2.2.2.1.length)).length 16; rw [vwA]; exact rm (by decide) (by decide) g6⟩
  · have hc : c ∈ Vw (x.2.2.1.map wC, x.2.2.1.length) := hc
    rw [vwM] at hc
    obtain ⟨d, hd, rfl⟩ := List.mem_map.1 hc
    obtain ⟨_, _, ⟨g, _⟩, _⟩ := h3' d hd
    rw [bytes3] at g
    show Rm (Vw (d.2.2.1, d.2.2.1.length)).length 8
    rw [vwA]; exact rm (by decide) (by decide) g
def lensP (p : WP) : Nat := (Vw p.2.2.2.1).length + (Vw p.2.2.2.2.1).length + (Vw p.2.2.2.2.2.1).length + (Vw p.2.2.2.2.2.2.2.2.1).length + (Vw p.2.2.2.2.2.2.2.2.2.1).length + (Vw p.2.2.2.2.2.2.2.2.2.2.1).length
/-- Fuel enough. -/
def fuel (x : WI) : Nat := 1048601 + (Vw x.1).length + (Vw x.2.1).length + (Vw x.2.2.1).length + ((Vw x.1).map lensP).sum + ((Vw x.2.2.1).map fun c => (Vw c.2.2.1).length).sum
theorem fuel_fu (x : WI) : Fu (fuel x) x := by
  refine ⟨by unfold fuel; omega, by unfold fuel; omega, by unfold fuel; omega, fun p hp => ?_, fun c hc => ?_⟩
  · have := le_tos lensP (Vw x.1) p hp
    unfold lensP at this
    refine ⟨?_, ?_, ?_, ?_, ?_, ?_⟩ <;> (unfold fuel; unfold lensP; omega)
  · have := le_tos (fun c : WC => (Vw c.2.2.1).length) (Vw x.2.2.1) c hc
    unfold fuel
    omega
theorem fits_of {k : Nat} (hk : 1048600 < k) {y : IM} (hh : ∀ p ∈ y.1, p.2.2.2.2.2.2.2.1.length = 8) (ht : ∀ d ∈ y.2.2.1, d.2.2.1.length < k ∧ d.2.2.1.length < 4611686018427387904) : Fits k y := ⟨hk, hh, ht⟩
theorem fits1 {x : WI} (hx : RmI x) (hh : ∀ p ∈ Vw x.1, p.2.2.2.2.2.2.2.1.length = 8) : Fits (fuel x) (sI x) := by
  have hf := fuel_fu x
  refine fits_of (by unfold fuel; omega) (fun p hp => ?_) (fun d hd => ?_)
  · obtain ⟨q, hq, rfl⟩ := List.mem_map.1 (show p ∈ (Vw x.1).map sP from hp)
    exact hh q hq
  · obtain ⟨c, hc, rfl⟩ := List.mem_map.1 (show d ∈ (Vw x.2.2.1).map sC from hd)
    exact ⟨hf.cs c hc, (hx.cs c hc).lt⟩
theorem fits2 {x : WI} (hx : RmI x) (hh : ∀ p ∈ Vw x.1, p.2.2.2.2.2.2.2.1.length = 8) : Fits (fuel x) (sI (aI x)) := by
  have hf := (fuel_fu x).a
  have hxa := hx.a
  refine fits_of (by unfold fuel; omega) (fun p hp => ?_) (fun d hd => ?_)
  · obtain ⟨q, hq, rfl⟩ := List.mem_map.1 (show p ∈ (Vw (aI x).1).map sP from hp)
    rw [a1] at hq
    obtain ⟨r, hr, rfl⟩ := List.mem_map.1 hq
    exact hh r hr
  · obtain ⟨c, hc, rfl⟩ := List.mem_map.1 (show d ∈ (Vw (aI x).2.2.1).map sC from hd)
    exact ⟨hf.cs c hc, (hxa.cs c hc).lt⟩
theorem ageExact_any {H : Type} (enc : TypeId × Value → H) (W : World) {base : Nat} {v0 v1 v2 : Value} {d0 d1 d2 : DataW H} {p0 p1 p2 : List MemPlace}
    (o0 : Value.okWide Tryz.prog W .any base 26 v0) (h0 : DataW.Trod enc Tryz.prog W 0 (fun _ => true) true 26 v0 d0 p0) (o1 : Value.okWide Tryz.prog W .any base 3 v1) (h1 : DataW.Trod enc Tryz.prog W 0 (fun _ => true) true 3 v1 d1 p1)
    (o2 : Value.okWide Tryz.prog W .any base 3 v2) (h2 : DataW.Trod enc Tryz.prog W 0 (fun _ => true) true 3 v2 d2 p2)
    (hsz : ∀ x ∈ DataW.weightsEach Tryz.prog [26, 3, 3] [d0, d1, d2], x ≤ reachBytes) (hL : laidMetH Tryz.prog Rows.ageExactRow.laid W) :
    Calls Tryz.prog 5 #[v0, v1, v2] W fun e w' => e = .returned (.bool true) ∧ Below W.heap.size W w' := by
  have G : GW W := gw_laid hL
  simp only [DataW.weightsEach, List.append_nil, List.mem_append] at hsz
  obtain ⟨x0, a0, k0, _⟩ := open_arg (n := 8) (k := kIM) (by kernel_rfl) o0 h0 (fun x hx => hsz x (.inl hx))
  obtain ⟨x1, a1, k1, _⟩ := open_arg (n := 6) (k := .int .i64) (by kernel_rfl) o1 h1 (fun x hx => hsz x (.inr (.inl hx)))
  obtain ⟨x2, a2, k2, _⟩ := open_arg (n := 6) (k := .int .i64) (by kernel_rfl) o2 h2 (fun x hx => hsz x (.inr (.inr hx)))
  obtain ⟨cs, c1, c2⟩ := a0
  have a0' : ∃ cs, Shows kWI v0 cs ∧ Rz W (Old W) kWI .sh [] (wI x0) cs := ⟨cs, shows_toW (k := kWI) c1, by rw [← wI_eq]; exact Rz_toW kWI x0 cs c2⟩
  have hh : ∀ p ∈ Vw (wI x0).1, p.2.2.2.2.2.2.2.1.length = 8 := by
    intro p hp
    have hp : p ∈ Vw (x0.1.map wP, x0.1.length) := hp
    rw [vwM] at hp
    obtain ⟨q, hq, rfl⟩ := List.mem_map.1 hp
    exact (fits_ok k0).heal q hq
  exact law_calls ok5 rfl (fun w' hb => G.below hb) (vs := [v0, v1, v2]) ⟨_, _, rfl, a0', _, _, rfl, a1, _, _, rfl, a2, rfl, rfl⟩ (d5_eq _ (by unfold fuel; omega) (wI x0) (rmI k0) (fuel_fu _) (fits1 (rmI k0) hh) (fits2 (rmI k0) hh) x1 x2) rfl
theorem ageExact_anyUpto {H : Type} (enc : TypeId × Value → H) (W : World) {base : Nat} {v0 v1 v2 : Value} {d0 d1 d2 : DataW H} {p0 p1 p2 : List MemPlace}
    (o0 : Value.okWide Tryz.prog W .any base 26 v0) (h0 : DataW.Trod enc Tryz.prog W 0 (fun _ => true) true 26 v0 d0 p0) (o1 : Value.okWide Tryz.prog W .any base 3 v1) (h1 : DataW.Trod enc Tryz.prog W 0 (fun _ => true) true 3 v1 d1 p1)
    (o2 : Value.okWide Tryz.prog W .any base 3 v2) (h2 : DataW.Trod enc Tryz.prog W 0 (fun _ => true) true 3 v2 d2 p2)
    (hsz : ∀ x ∈ DataW.weightsEach Tryz.prog [26, 3, 3] [d0, d1, d2], x ≤ reachBytes) (hL : laidMetH Tryz.prog Rows.ageExactUptoRow.laid W) {B : Prop} (_ : B) :
    Calls Tryz.prog 5 #[v0, v1, v2] W fun e w' => e = .returned (.bool true) ∧ Below W.heap.size W w' := ageExact_any enc W o0 h0 o1 h1 o2 h2 hsz hL
end Go.Proofs.YtekgngedamnmaaaGreatDoor
