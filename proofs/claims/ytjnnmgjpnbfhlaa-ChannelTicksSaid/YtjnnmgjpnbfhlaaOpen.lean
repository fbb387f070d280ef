/- An argument that can be read, as a kind of value: what its cells say, and its sizes. -/
import Derived.Test.YtjnnmgjpnbfhlaaWWords
import Derived.Deep.Slices
import Derived.OpenShut
import Derived.SizedLaws
namespace Go.Proofs.Ytjnnmgjpnbfhlaa.Open
open Go.RowKit Go.ChangeShapes Go.WideShapes Go.Deep Go.Proofs.YtjnnmgjpnbfhlaaW.PrintWords
set_option linter.unusedVariables false
set_option linter.unusedSimpArgs false

/-- what reads as type t is a value of the kind d, of which ok holds -/
def Op {α : Type} (P : Program) (t : TypeId) (d : Kd α) (ok : α → Prop) : Prop :=
  ∀ (H : Type) (enc : TypeId × Value → H) (W : World) (sp : Nat → Bool) (held : Bool) (fuel : Nat) (cs : List Value) (D : DataW H) (ps : List MemPlace),
    DataW.trod enc P W 0 sp held fuel t cs = some (D, ps) → (∀ n ∈ D.weights P t, n ≤ reachBytes) → ∃ x : α, d.K W x cs ∧ ok x
/-- the same of the fields from offset off on -/
def Ops {β : Type} (P : Program) (fs : List Field) (off n : Nat) (d : Kd β) (ok : β → Prop) : Prop :=
  ∀ (H : Type) (enc : TypeId × Value → H) (W : World) (sp : Nat → Bool) (held : Bool) (fuel : Nat) (cs : List Value) (xs : List (DataW H × List MemPlace)), cs.length = n →
    (fs.mapM fun f => DataW.trod enc P W 0 sp held fuel f.type ((cs.drop f.offset).take (P.cellsOf f.type))) = some xs →
    (∀ m ∈ DataW.weightsEach P (fs.map (·.type)) (xs.map (·.1)), m ≤ reachBytes) → ∃ y : β, d.K W y (cs.drop off) ∧ ok y
/-- the same of an array's elements from number j on -/
def Els {β : Type} (P : Program) (e : TypeId) (j k n : Nat) (d : Kd β) (ok : β → Prop) : Prop :=
  ∀ (H : Type) (enc : TypeId × Value → H) (W : World) (sp : Nat → Bool) (held : Bool) (fuel : Nat) (cs : List Value) (xs : List (DataW H × List MemPlace)), cs.length = n →
    ((List.range' j k).mapM fun i => DataW.trod enc P W 0 sp held fuel e ((cs.drop (i * P.cellsOf e)).take (P.cellsOf e))) = some xs →
    (∀ m ∈ DataW.weightsAll P e (xs.map (·.1)), m ≤ reachBytes) → ∃ y : β, d.K W y (cs.drop (j * P.cellsOf e)) ∧ ok y

section
variable {P : Program}
theorem op_int {t : TypeId} {k : IntKind} (h : P.underlying t = some (.int k)) : Op P t (Kd.int k) (fun x => (Lit.int k x).wf = true) := by
  intro H enc W sp held fuel cs D ps ht _
  obtain ⟨a, e, _, w⟩ := DataW.trod_int h ht
  exact ⟨a, e, w⟩
theorem op_bool {t : TypeId} (h : P.underlying t = some .bool) : Op P t Kd.bool (fun _ => True) := by
  intro H enc W sp held fuel cs D ps ht _
  obtain ⟨b, e, _⟩ := DataW.trod_bool h ht
  exact ⟨b, e, trivial⟩
theorem op_string {t : TypeId} (h : P.underlying t = some .string) : Op P t Kd.string (fun s => s.size ≤ 140737488351232) := by
  intro H enc W sp held fuel cs D ps ht hw
  obtain ⟨s, e, e2, _⟩ := DataW.trod_string h ht
  simp only [Prod.mk.injEq] at e2
  refine ⟨s, e, ?_⟩
  have := hw _ (by rw [e2.1]; unfold DataW.weights; exact List.mem_singleton.2 rfl)
  simpa [reachBytes] using this

theorem weights_elem {H : Type} {e : TypeId} {n : Nat} {d : DataW H} : ∀ {l : List (DataW H)}, d ∈ l → n ∈ d.weights P e → n ∈ DataW.weightsAll P e l
  | x :: l, hd, hn => by
    unfold DataW.weightsAll
    rcases List.mem_cons.1 hd with rfl | hd
    · exact List.mem_append_left _ hn
    · exact List.mem_append_right _ (weights_elem hd hn)

theorem pick_list {α : Type} {p : Nat → α → Prop} : ∀ n : Nat, (∀ i, i < n → ∃ x, p i x) → ∃ xs : List α, xs.length = n ∧ ∀ i x, xs[i]? = some x → p i x
  | 0, _ => ⟨[], rfl, fun i x h => by simp at h⟩
  | n + 1, h => by
    obtain ⟨xs, hl, hx⟩ := pick_list n (fun i hi => h i (by omega))
    obtain ⟨y, hy⟩ := h n (by omega)
    refine ⟨xs ++ [y], by simp [hl], fun i x hi => ?_⟩
    rcases Nat.lt_or_ge i xs.length with h1 | h1
    · rw [List.getElem?_append_left h1] at hi
      exact hx i x hi
    · have h2 : i < (xs ++ [y]).length := (List.getElem?_eq_some_iff.1 hi).1
      have h3 : i = n := by simp at h2; omega
      subst h3
      rw [List.getElem?_append_right h1, hl] at hi
      simp at hi
      subst hi
      exact hy

theorem op_slice {α : Type} {t e : TypeId} {d : Kd α} {ok : α → Prop} (ht : P.underlying t = some (.slice e)) (he : Op P e d ok) (hs : d.sz = P.cellsOf e) :
    Op P t (Kd.slice e d) (fun xs => xs.length * P.bytesOf e ≤ 140737488351232 ∧ ∀ x ∈ xs, ok x) := by
  intro H enc W sp held fuel cs D ps h hw
  rcases open_slice ht h with ⟨rfl, hx⟩ | ⟨a, len, cap, m, n, Df, Pl, rfl, hb, hl, hm, hmm, hx, hi⟩
  · exact ⟨[], ⟨none, 0, rfl, Nat.le_refl _, rfl, by simp, fun h => absurd h (Nat.lt_irrefl 0)⟩, by simp, fun x hx => by cases hx⟩
  · simp only [Prod.mk.injEq] at hx
    obtain ⟨hD, _⟩ := hx
    have hlm : len ≤ m := by rw [hmm]; split <;> omega
    have hel : ∀ i, i < len → ∃ x : α, ok x ∧ ∃ c : List Value, c.length = d.sz ∧ d.K W x c ∧ ∀ j u, c[j]? = some u → W.cell? (a.add (i * d.sz + j)) = some u := by
      intro i hil
      obtain ⟨cs', hc, ht'⟩ := hi i (by omega)
      obtain ⟨x, hK, hok⟩ := he H enc W sp held n cs' (Df i) (Pl i) ht' (fun q hq => hw q (by
        rw [hD]
        unfold DataW.weights
        rw [ht]
        refine List.mem_cons_of_mem _ (List.mem_append_left _ (weights_elem (d := Df i) ?_ hq))
        exact List.mem_map.2 ⟨i, List.mem_range.2 hil, rfl⟩))
      obtain ⟨_, hcl, hat⟩ := World.cells?_some hc
      refine ⟨x, hok, cs', by rw [hcl, hs], hK, fun j u hu => ?_⟩
      have hj : j < cs'.length := (List.getElem?_eq_some_iff.1 hu).1
      have := hat j (by omega)
      rw [hs, ← Go.Deep.add_add, this, hu]
    obtain ⟨xs, hxl, hxs⟩ := pick_list len hel
    refine ⟨xs, ⟨some a, cap, by rw [hxl], by omega, rfl, by rw [hxl]; unfold maxLen at hm; omega, fun _ => ⟨a, rfl, fun j p hp => ?_⟩⟩, ?_, ?_⟩
    · obtain ⟨_, c, h1, h2, h3⟩ := hxs j p hp
      exact ⟨c, h1, h2, h3⟩
    · have := hw ((len + (m - len)) * P.bytesOf e) (by
        rw [hD]
        unfold DataW.weights
        rw [ht]
        simp)
      have h2 : xs.length * P.bytesOf e ≤ (len + (m - len)) * P.bytesOf e := Nat.mul_le_mul_right _ (by omega)
      unfold reachBytes at this
      omega
    · intro x hx
      obtain ⟨i, hi'⟩ := List.mem_iff_getElem?.1 hx
      exact (hxs i x hi').1

theorem op_iso {α β : Type} {t : TypeId} {d : Kd α} {ok : α → Prop} (f : β → α) (g : α → β) (hfg : ∀ x, f (g x) = x) (h : Op P t d ok) : Op P t (Kd.iso d f) (fun y => ok (f y)) := by
  intro H enc W sp held fuel cs D ps ht hw
  obtain ⟨x, hx, ho⟩ := h H enc W sp held fuel cs D ps ht hw
  exact ⟨g x, by show d.K W (f (g x)) cs; rw [hfg]; exact hx, by show ok (f (g x)); rw [hfg]; exact ho⟩

theorem op_struct {β : Type} {t : TypeId} {fs : Array Field} {d : Kd β} {ok : β → Prop} (ht : P.underlying t = some (.struct fs)) (h : Ops P fs.toList 0 (P.cellsOf t) d ok) : Op P t d ok := by
  intro H enc W sp held fuel cs D ps hd hw
  cases fuel with
  | zero => simp [DataW.trod] at hd
  | succ fuel =>
    unfold DataW.trod at hd; rw [ht] at hd
    simp only at hd
    split at hd
    · rename_i hl
      obtain ⟨xs, hm, hx⟩ := Option.map_eq_some_iff.1 hd
      simp only [Prod.mk.injEq] at hx
      have := h H enc W sp held fuel cs xs hl hm (fun m hm' => hw m (by rw [← hx.1]; unfold DataW.weights; rw [ht]; exact hm'))
      simpa using this
    · cases hd

theorem ops_last {α : Type} {f : Field} {off n : Nat} {d : Kd α} {ok : α → Prop} (h : Op P f.type d ok) (ho : f.offset = off) (hn : off + P.cellsOf f.type = n) : Ops P [f] off n d ok := by
  intro H enc W sp held fuel cs xs hl hm hw
  simp only [List.mapM_cons, List.mapM_nil, Option.bind_eq_bind, Option.bind_eq_some_iff, Option.pure_def, Option.some.injEq] at hm
  obtain ⟨x, hx, r, rfl, rfl⟩ := hm
  obtain ⟨y, hy, hok⟩ := h H enc W sp held fuel _ x.1 x.2 hx (fun m hm' => hw m (by simp [DataW.weightsEach, hm']))
  refine ⟨y, ?_, hok⟩
  rw [ho, List.take_of_length_le (by rw [List.length_drop]; omega)] at hy
  exact hy

theorem ops_cons {α β : Type} {f : Field} {fs : List Field} {off n : Nat} {d : Kd α} {d2 : Kd β} {ok : α → Prop} {ok2 : β → Prop} (h : Op P f.type d ok) (ho : f.offset = off) (h2 : Ops P fs (off + P.cellsOf f.type) n d2 ok2) :
    Ops P (f :: fs) off n (Kd.pair d d2) (fun x => ok x.1 ∧ ok2 x.2) := by
  intro H enc W sp held fuel cs xs hl hm hw
  rw [List.mapM_cons] at hm
  simp only [Option.bind_eq_bind, Option.bind_eq_some_iff, Option.pure_def, Option.some.injEq] at hm
  obtain ⟨x, hx, r, hr, rfl⟩ := hm
  obtain ⟨y, hy, hok⟩ := h H enc W sp held fuel _ x.1 x.2 hx (fun m hm' => hw m (by simp [DataW.weightsEach, hm']))
  obtain ⟨z, hz, hok2⟩ := h2 H enc W sp held fuel cs r hl hr (fun m hm' => hw m (by simp only [List.map_cons, DataW.weightsEach]; exact List.mem_append_right _ hm'))
  refine ⟨(y, z), ⟨_, _, ?_, hy, hz⟩, hok, hok2⟩
  rw [ho, ← List.drop_drop, List.take_append_drop]

theorem op_array {β : Type} {t e : TypeId} {n : Nat} {d : Kd β} {ok : β → Prop} (ht : P.underlying t = some (.array n e)) (h : Els P e 0 n (P.cellsOf t) d ok) : Op P t d ok := by
  intro H enc W sp held fuel cs D ps hd hw
  cases fuel with
  | zero => simp [DataW.trod] at hd
  | succ fuel =>
    unfold DataW.trod at hd; rw [ht] at hd
    simp only at hd
    split at hd
    · rename_i hl
      obtain ⟨xs, hm, hx⟩ := Option.map_eq_some_iff.1 hd
      simp only [Prod.mk.injEq] at hx
      rw [List.range_eq_range'] at hm
      have := h H enc W sp held fuel cs xs hl hm (fun m hm' => hw m (by rw [← hx.1]; unfold DataW.weights; rw [ht]; exact hm'))
      simpa using this
    · cases hd
theorem els_last {α : Type} {e : TypeId} {j n : Nat} {d : Kd α} {ok : α → Prop} (h : Op P e d ok) (hn : j * P.cellsOf e + P.cellsOf e = n) : Els P e j 1 n d ok := by
  intro H enc W sp held fuel cs xs hl hm hw
  simp only [List.range'_succ, List.range'_zero, List.mapM_cons, List.mapM_nil, Option.bind_eq_bind, Option.bind_eq_some_iff, Option.pure_def, Option.some.injEq] at hm
  obtain ⟨x, hx, r, rfl, rfl⟩ := hm
  obtain ⟨y, hy, hok⟩ := h H enc W sp held fuel _ x.1 x.2 hx (fun m hm' => hw m (by simp [DataW.weightsAll, hm']))
  refine ⟨y, ?_, hok⟩
  rw [List.take_of_length_le (by rw [List.length_drop]; omega)] at hy
  exact hy
theorem els_cons {α β : Type} {e : TypeId} {j k n : Nat} {d : Kd α} {d2 : Kd β} {ok : α → Prop} {ok2 : β → Prop} (h : Op P e d ok) (h2 : Els P e (j + 1) k n d2 ok2) : Els P e j (k + 1) n (Kd.pair d d2) (fun x => ok x.1 ∧ ok2 x.2) := by
  intro H enc W sp held fuel cs xs hl hm hw
  rw [List.range'_succ, List.mapM_cons] at hm
  simp only [Option.bind_eq_bind, Option.bind_eq_some_iff, Option.pure_def, Option.some.injEq] at hm
  obtain ⟨x, hx, r, hr, rfl⟩ := hm
  obtain ⟨y, hy, hok⟩ := h H enc W sp held fuel _ x.1 x.2 hx (fun m hm' => hw m (by simp [DataW.weightsAll, hm']))
  obtain ⟨z, hz, hok2⟩ := h2 H enc W sp held fuel cs r hl hr (fun m hm' => hw m (by simp only [List.map_cons, DataW.weightsAll]; exact List.mem_append_right _ hm'))
  refine ⟨(y, z), ⟨_, _, ?_, hy, hz⟩, hok, hok2⟩
  rw [show (j + 1) * P.cellsOf e = j * P.cellsOf e + P.cellsOf e from by rw [Nat.add_mul, Nat.one_mul], ← List.drop_drop, List.take_append_drop]

/-- from an argument's reading -/
theorem open_arg {α : Type} {t : TypeId} {d : Kd α} {ok : α → Prop} (h : Op P t d ok) {H : Type} {enc : TypeId × Value → H} {W : World} {sp : Nat → Bool} {held : Bool} {v : Value} {D : DataW H} {ps : List MemPlace}
    (ht : DataW.Trod enc P W 0 sp held t v D ps) (hw : ∀ n ∈ D.weights P t, n ≤ reachBytes) : ∃ x : α, d.K W x v.cells.toList ∧ ok x :=
  let ⟨fuel, hf⟩ := ht
  h H enc W sp held fuel _ D ps hf hw
end
end Go.Proofs.Ytjnnmgjpnbfhlaa.Open
