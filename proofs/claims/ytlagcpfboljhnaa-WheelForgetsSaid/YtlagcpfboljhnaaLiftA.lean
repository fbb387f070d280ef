/-
  THE LIFT (LiftA): a checked way from the model's code to plain functions: what a function is compiled to, it is.
-/
import Derived.Below
import Derived.Handy
import Derived.KernelRfl
import Derived.Deep.AppendSrc
import Derived.Great.BuildSlice
import Derived.Laws.OwnMore
import Derived.Laws.Concat
import Derived.Lib.ConvBytes
import Derived.Laws.BytesString
namespace Go.Lift
set_option linter.unusedVariables false
set_option linter.unusedSimpArgs false

/-- What data look like. -/
inductive Kt where
  | int (k : IntKind)
  | bool
  | str
  | unit
  | pair (a b : Kt)
  | arr (n : Nat) (e : Kt)
  | sl (T : TypeId) (e : Kt)
  | ptr (T : TypeId) (e : Kt)
  | unk
  | fn (f : Nat) (env : Kt)
  | bld (T e : TypeId)
  | ifc (t : TypeId) (e : Kt)
  | fnv
  | win (s : Kt)
  | map (a b : Kt)
  | opt (b : Bool) (s : Kt)
  deriving DecidableEq, Inhabited

@[reducible] def Kt.T : Kt → Type
  | .int _ => Int
  | .bool => Bool
  | .str => ByteArray
  | .unit => Unit
  | .pair a b => a.T × b.T
  | .arr _ e => List e.T
  | .sl _ e => List e.T
  | .ptr _ e => e.T
  | .unk => Unit
  | .fn _ e => e.T
  | .bld _ _ => ByteArray
  | .ifc _ e => Option e.T
  | .fnv => Option Nat
  | .win s => s.T × Nat
  | .map a b => Option (List (a.T × b.T))
  | .opt b s => Option s.T

def Kt.dflt : (k : Kt) → k.T
  | .int _ => (0 : Int)
  | .bool => false
  | .str => ByteArray.empty
  | .unit => ()
  | .pair a b => (a.dflt, b.dflt)
  | .arr n e => List.replicate n e.dflt
  | .sl _ _ => []
  | .ptr _ e => e.dflt
  | .unk => ()
  | .fn _ e => e.dflt
  | .bld _ _ => ByteArray.empty
  | .ifc _ _ => none
  | .fnv => none
  | .win s => (s.dflt, 0)
  | .map _ _ => none
  | .opt false s => some s.dflt
  | .opt true _ => none

def Kt.size : Kt → Nat
  | .int _ => 1
  | .bool => 1
  | .str => 1
  | .unit => 0
  | .pair a b => a.size + b.size
  | .arr n e => n * e.size
  | .sl _ _ => 1
  | .ptr _ _ => 1
  | .unk => 1
  | .fn _ _ => 1
  | .bld _ _ => 1
  | .ifc _ _ => 1
  | .fnv => 1
  | .win _ => 1
  | .map _ _ => 1
  | .opt b s => s.size

/-- Who owns: sh: nothing is owned; ow: a slice's or pointer's block (or an array's elements), its elements by the mask; pr: of a pair; ho: nothing is known. -/
inductive Mk where
  | sh
  | ow (m : Mk)
  | pr (a b : Mk)
  | ho
  deriving DecidableEq, Inhabited

def Mk.l : Mk → Mk
  | .pr a _ => a
  | .ho => .ho
  | _ => .sh
def Mk.r : Mk → Mk
  | .pr _ b => b
  | .ho => .ho
  | _ => .sh
def Mk.e : Mk → Mk
  | .ow m => m
  | .ho => .ho
  | _ => .sh
/-- Nothing is owned. -/
def Mk.free : Mk → Bool
  | .sh => true
  | .pr a b => a.free && b.free
  | _ => false

/-- A list of data in a list of cells, each with its own footprint. -/
inductive RzL {α : Type} (R : List Nat → α → List Value → Prop) : List Nat → List α → List Value → Prop
  | nil : RzL R [] [] []
  | cons {F Fs : List Nat} {x : α} {xs : List α} {c cs : List Value} (h : R F x c) (t : RzL R Fs xs cs) : RzL R (F ++ Fs) (x :: xs) (c ++ cs)

def CellsAt (w : World) (b o : Nat) (cs : List Value) : Prop := ∀ j v, cs[j]? = some v → w.cell? ⟨b, o + j, none⟩ = some v

def One (cs : List Value) : Prop := cs.length = 1 ∧ ∀ u ∈ cs, u.oneCell' = true

/-- A kind whose value is an aggregate. -/
def Kt.isAgg : Kt → Bool
  | .pair _ _ => true
  | .unit => true
  | .arr _ _ => true
  | .opt b s => s.isAgg
  | _ => false
def Shows (k : Kt) (v : Value) (cs : List Value) : Prop := if k.isAgg = true then v = .agg cs.toArray else cs = [v]
/-- What a function value has captured: value by value. -/
def ShL : Kt → List Value → List Value → Prop
  | .unit, vs, cc => vs = [] ∧ cc = []
  | .pair a b, vs, cc => ∃ v vs' c1 c2, vs = v :: vs' ∧ cc = c1 ++ c2 ∧ c1.length = a.size ∧ Shows a v c1 ∧ ShL b vs' c2
  | _, _, _ => False
/-- A slice's capacity. -/
def CapOk (n cap : Nat) : Prop := n ≤ cap ∧ cap ≤ 9223372036854775807
/-- An empty slice; a nil one has no room. -/
def Nl {α : Type} (A : Option Addr) (cap : Nat) (xs : List α) : Prop := xs = [] ∧ (A = none → cap = 0)
theorem capOk0 : CapOk 0 0 := ⟨Nat.le_refl _, by omega⟩

/-- A buffer of bytes. -/
def BufAt (w : World) (e : TypeId) (v : Value) (x : ByteArray) (Fb : List Nat) : Prop :=
  (v = .slice none 0 0 ∧ x.size = 0 ∧ Fb = []) ∨ ∃ h cap C, v = .slice (some ⟨h, 0, none⟩) x.size cap ∧ Fb = [h] ∧ w.heap[h]? = some (.cells C e (0, 0)) ∧ C.size = cap ∧ CapOk x.size cap ∧ C.toList.take x.size = x.data.toList.map fun b => Value.int .u8 b.toNat
/-- A strings.Builder in a block of its own. -/
def BldAt (w : World) (T e : TypeId) (F : List Nat) (x : ByteArray) (cs : List Value) : Prop :=
  ∃ g p v Fb, cs = [.pointer (some ⟨g, 0, none⟩)] ∧ F = g :: Fb ∧ w.heap[g]? = some (.cells #[p, v] T (0, 0)) ∧ (p = .pointer none ∨ p = .pointer (some ⟨g, 0, none⟩)) ∧ BufAt w e v x Fb

/-- A number, a truth or a string as a value. -/
def scV : (k : Kt) → k.T → Value
  | .int i, n => .int i n
  | .bool, b => .bool b
  | .str, s => .string s
  | _, _ => .bool false
/-- A map in a block of its own. -/
def MapAt (w : World) (a b : Kt) (F : List Nat) (x : Option (List (a.T × b.T))) (cs : List Value) : Prop :=
  (x = none ∧ F = [] ∧ cs = [.map none]) ∨ ∃ g es ck l, x = some l ∧ cs = [.map (some g)] ∧ F = [g] ∧ w.heap[g]? = some (.map es ck) ∧ es.toList.map (fun e => (e.key, e.val)) = l.map fun q => (scV a q.1, scV b q.2)

/-- A map that is read. -/
def MapSh (w : World) (Sh : Nat → Prop) (a b : Kt) (x : Option (List (a.T × b.T))) (cs : List Value) : Prop :=
  (x = none ∧ cs = [.map none]) ∨ ∃ g es ck l, x = some l ∧ cs = [.map (some g)] ∧ Sh g ∧ g < w.heap.size ∧ w.heap[g]? = some (.map es ck) ∧ es.toList.map (fun e => (e.key, e.val)) = l.map fun q => (scV a q.1, scV b q.2)
theorem MapSh.one {w : World} {Sh : Nat → Prop} {a b : Kt} {x : Option (List (a.T × b.T))} {cs : List Value} (h : MapSh w Sh a b x cs) : One cs := by
  rcases h with ⟨_, rfl⟩ | ⟨g, es, ck, l, _, rfl, _⟩ <;> exact ⟨rfl, fun u hu => by rw [List.mem_singleton.1 hu]; rfl⟩

/-- A function with nothing captured, or none. -/
def fnV : Option Nat → Value
  | none => .nilFunc
  | some f => .func (.func f) #[] #[]
theorem fnV_one (x : Option Nat) : (fnV x).oneCell' = true := by cases x <;> rfl

/-- Cells show data of a kind; F: the blocks that are owned through them; Sh: where what is not owned may lie. -/
def Rz (w : World) (Sh : Nat → Prop) : (k : Kt) → Mk → List Nat → k.T → List Value → Prop
  | .int i, m, F, n, cs => F = [] ∧ ((m = .ho ∧ One cs) ∨ (m ≠ .ho ∧ cs = [.int i n]))
  | .bool, m, F, b, cs => F = [] ∧ ((m = .ho ∧ One cs) ∨ (m ≠ .ho ∧ cs = [.bool b]))
  | .str, m, F, s, cs => F = [] ∧ ((m = .ho ∧ One cs) ∨ (m ≠ .ho ∧ cs = [.string s]))
  | .unit, _, F, _, cs => F = [] ∧ cs = []
  | .pair a b, m, F, x, cs => ∃ F1 F2 c1 c2, F = F1 ++ F2 ∧ cs = c1 ++ c2 ∧ Rz w Sh a m.l F1 x.1 c1 ∧ Rz w Sh b m.r F2 x.2 c2
  | .arr n e, m, F, xs, cs => xs.length = n ∧ RzL (Rz w Sh e m.e) F xs cs
  | .sl T e, .ow m, F, xs, cs => (F = [] ∧ xs = [] ∧ cs = [.slice none 0 0]) ∨
      ∃ g cap C Fe, cs = [.slice (some ⟨g, 0, none⟩) xs.length cap] ∧ F = g :: Fe ∧ w.heap[g]? = some (.cells C T (0, 0)) ∧
        C.size = cap * e.size ∧ CapOk xs.length cap ∧ RzL (Rz w Sh e m) Fe xs (C.toList.take (xs.length * e.size))
  | .sl _ e, m, F, xs, cs => F = [] ∧ ((m = .ho ∧ One cs) ∨ (m ≠ .ho ∧ ∃ A cap, cs = [.slice A xs.length cap] ∧ CapOk xs.length cap ∧
      (Nl A cap xs ∨ ∃ b o cc, A = some ⟨b, o, none⟩ ∧ Sh b ∧ b < w.heap.size ∧ RzL (Rz w Sh e .sh) [] xs cc ∧ CellsAt w b o cc)))
  | .ptr T e, .ow m, F, x, cs => ∃ g C Fe, cs = [.pointer (some ⟨g, 0, none⟩)] ∧ F = g :: Fe ∧ w.heap[g]? = some (.cells C T (0, 0)) ∧ Rz w Sh e m Fe x C.toList
  | .ptr _ e, m, F, x, cs => F = [] ∧ ((m = .ho ∧ One cs) ∨ (m ≠ .ho ∧ ∃ b o cc, cs = [.pointer (some ⟨b, o, none⟩)] ∧ Sh b ∧ b < w.heap.size ∧ Rz w Sh e .sh [] x cc ∧ CellsAt w b o cc))
  | .unk, _, F, _, cs => F = [] ∧ One cs
  | .fn f e, m, F, x, cs => F = [] ∧ ((m = .ho ∧ One cs) ∨ (m ≠ .ho ∧ ∃ vs cc, cs = [.func (.func f) #[] vs.toArray] ∧ ShL e vs cc ∧ Rz w Sh e .sh [] x cc))
  | .bld T e, .ow _, F, x, cs => BldAt w T e F x cs
  | .bld _ _, _, F, _, cs => F = [] ∧ One cs
  | .ifc t e, m, F, x, cs => (m = .ho ∧ F = [] ∧ One cs) ∨ (m ≠ .ho ∧ ((cs = [.nilIface] ∧ x = none ∧ F = []) ∨ ∃ y v cs', x = some y ∧ cs = [.iface t v] ∧ Shows e v cs' ∧ Rz w Sh e m.e F y cs'))
  | .fnv, m, F, x, cs => F = [] ∧ ((m = .ho ∧ One cs) ∨ (m ≠ .ho ∧ cs = [fnV x]))
  | .map a b, .ow _, F, x, cs => MapAt w a b F x cs
  | .map a b, m, F, x, cs => F = [] ∧ ((m = .ho ∧ One cs) ∨ (m ≠ .ho ∧ MapSh w Sh a b x cs))
  | .win s, m, F, x, cs => (m = .ho ∧ F = [] ∧ One cs) ∨ (m ≠ .ho ∧ ∃ A n cap, cs = [.slice A x.2 cap] ∧ x.2 ≤ n ∧ Rz w Sh s m F x.1 [.slice A n cap])
  | .opt b s, m, F, x, cs => (x = none ∧ F = [] ∧ cs.length = s.size ∧ (∀ u ∈ cs, u.oneCell' = true) ∧ (b = true → cs = [.pointer none])) ∨ ∃ y, x = some y ∧ Rz w Sh s m F y cs

section RzLs
variable {α β : Type} {R R' : List Nat → α → List Value → Prop} {F : List Nat} {xs : List α} {cs : List Value}

theorem RzL.imp (h : RzL R F xs cs) (hi : ∀ F' x c, (∀ b, b ∈ F' → b ∈ F) → R F' x c → R' F' x c) : RzL R' F xs cs := by
  induction h with
  | nil => exact .nil
  | cons h t ih =>
    refine .cons (hi _ _ _ (fun b hb => List.mem_append_left _ hb) h) (ih fun F' x c hF => hi F' x c fun b hb => List.mem_append_right _ (hF b hb))
theorem RzL.imp_free (h : RzL R F xs cs) (hi : ∀ F' x c, (∀ b, b ∈ F' → b ∈ F) → R F' x c → R' [] x c) : RzL R' [] xs cs := by
  induction h with
  | nil => exact .nil
  | cons h t ih =>
    exact RzL.cons (F := []) (Fs := []) (hi _ _ _ (fun b hb => List.mem_append_left _ hb) h) (ih fun F' x c hF => hi F' x c fun b hb => List.mem_append_right _ (hF b hb))
theorem RzL.len {n : Nat} (h : RzL R F xs cs) (hn : ∀ F x c, R F x c → c.length = n) : cs.length = xs.length * n := by
  induction h with
  | nil => simp
  | cons h t ih => simp [ih, hn _ _ _ h, Nat.add_mul]; omega
theorem RzL.mem (h : RzL R F xs cs) {b : Nat} (hb : b ∈ F) : ∃ F' x c, b ∈ F' ∧ R F' x c := by
  induction h with
  | nil => cases hb
  | cons h t ih =>
    rcases List.mem_append.1 hb with hb | hb
    · exact ⟨_, _, _, hb, h⟩
    · exact ih hb
theorem RzL.append {F2 : List Nat} {ys : List α} {ds : List Value} (h : RzL R F xs cs) (h2 : RzL R F2 ys ds) : RzL R (F ++ F2) (xs ++ ys) (cs ++ ds) := by
  induction h with
  | nil => simpa using h2
  | cons h t ih =>
    rw [List.append_assoc, List.cons_append, List.append_assoc]
    exact .cons h ih
theorem RzL.single {x : α} {c : List Value} (h : R F x c) : RzL R F [x] c := by
  have := RzL.cons h .nil
  simpa using this
/-- A list taken apart at a place. -/
theorem RzL.split (h : RzL R F xs cs) (i : Nat) : ∃ F1 F2 c1 c2, F = F1 ++ F2 ∧ cs = c1 ++ c2 ∧ RzL R F1 (xs.take i) c1 ∧ RzL R F2 (xs.drop i) c2 := by
  induction h generalizing i with
  | nil => exact ⟨[], [], [], [], rfl, rfl, by simpa using .nil, by simpa using .nil⟩
  | @cons F0 Fs x xs c cs h t ih =>
    cases i with
    | zero => exact ⟨[], _, [], _, rfl, rfl, by simpa using RzL.nil, by simpa using RzL.cons h t⟩
    | succ i =>
      obtain ⟨F1, F2, c1, c2, rfl, rfl, h1, h2⟩ := ih i
      exact ⟨F0 ++ F1, F2, c ++ c1, c2, by simp, by simp, by simpa using RzL.cons h h1, by simpa using h2⟩
theorem RzL.get (h : RzL R F xs cs) {i : Nat} (hi : i < xs.length) :
    ∃ F1 Fo F2 c1 c c2, F = F1 ++ (Fo ++ F2) ∧ cs = c1 ++ (c ++ c2) ∧ RzL R F1 (xs.take i) c1 ∧ R Fo xs[i] c ∧ RzL R F2 (xs.drop (i + 1)) c2 := by
  obtain ⟨F1, F2, c1, c2, rfl, rfl, h1, h2⟩ := h.split i
  rw [List.drop_eq_getElem_cons hi] at h2
  cases h2 with
  | cons h3 h4 => exact ⟨F1, _, _, c1, _, _, rfl, rfl, h1, h3, h4⟩
theorem RzL.put {i : Nat} {y : α} {F1 Fo F2 : List Nat} {c1 c c2 : List Value} (hi : i < xs.length) (h1 : RzL R F1 (xs.take i) c1) (h : R Fo y c) (h2 : RzL R F2 (xs.drop (i + 1)) c2) :
    RzL R (F1 ++ (Fo ++ F2)) (xs.set i y) (c1 ++ (c ++ c2)) := by
  rw [List.set_eq_take_append_cons_drop, if_pos hi]
  exact h1.append (.cons h h2)
end RzLs

theorem Rz_len (w : World) (Sh : Nat → Prop) : ∀ (k : Kt) (m : Mk) (F : List Nat) (x : k.T) (cs : List Value), Rz w Sh k m F x cs → cs.length = k.size
  | .int _, m, F, x, cs, h => by
    rcases h.2 with h | h
    · exact h.2.1
    · rw [h.2]; rfl
  | .bool, m, F, x, cs, h => by
    rcases h.2 with h | h
    · exact h.2.1
    · rw [h.2]; rfl
  | .str, m, F, x, cs, h => by
    rcases h.2 with h | h
    · exact h.2.1
    · rw [h.2]; rfl
  | .unit, m, F, x, cs, h => by rw [h.2]; rfl
  | .pair a b, m, F, x, cs, h => by
    obtain ⟨F1, F2, c1, c2, rfl, rfl, h1, h2⟩ := h
    simp [Kt.size, Rz_len w Sh a _ _ _ _ h1, Rz_len w Sh b _ _ _ _ h2]
  | .arr n e, m, F, xs, cs, h => by
    obtain ⟨h1, h2⟩ := h
    rw [RzL.len h2 (Rz_len w Sh e _), h1]; rfl
  | .sl T e, .ow m, F, xs, cs, h => by
    rcases h with ⟨_, _, rfl⟩ | ⟨g, cap, C, Fe, rfl, _⟩ <;> rfl
  | .sl T e, .sh, F, xs, cs, h => by
    rcases h.2 with h | ⟨_, A, cap, rfl, _⟩
    · exact h.2.1
    · rfl
  | .sl T e, .ho, F, xs, cs, h => by
    rcases h.2 with h | ⟨_, A, cap, rfl, _⟩
    · exact h.2.1
    · rfl
  | .sl T e, .pr _ _, F, xs, cs, h => by
    rcases h.2 with h | ⟨_, A, cap, rfl, _⟩
    · exact h.2.1
    · rfl
  | .ptr T e, .ow m, F, xs, cs, h => by
    obtain ⟨g, C, Fe, rfl, _⟩ := h; rfl
  | .ptr T e, .sh, F, xs, cs, h => by
    rcases h.2 with h | ⟨_, b, o, cc, rfl, _⟩
    · exact h.2.1
    · rfl
  | .ptr T e, .ho, F, xs, cs, h => by
    rcases h.2 with h | ⟨_, b, o, cc, rfl, _⟩
    · exact h.2.1
    · rfl
  | .ptr T e, .pr _ _, F, xs, cs, h => by
    rcases h.2 with h | ⟨_, b, o, cc, rfl, _⟩
    · exact h.2.1
    · rfl
  | .unk, m, F, x, cs, h => h.2.1
  | .fn f e, m, F, x, cs, h => by
    rcases h.2 with h | ⟨_, vs, cc, rfl, _⟩
    · exact h.2.1
    · rfl
  | .bld T e, .ow m, F, x, cs, h => by
    obtain ⟨g, p, v, Fb, rfl, _⟩ := h; rfl
  | .map a b, .ow m, F, x, cs, h => by
    rcases h with ⟨_, _, rfl⟩ | ⟨g, es, ck, l, _, rfl, _⟩ <;> rfl
  | .map a b, .sh, F, x, cs, h => (h.2.elim (·.2) (·.2.one)).1
  | .map a b, .ho, F, x, cs, h => (h.2.elim (·.2) (·.2.one)).1
  | .map a b, .pr _ _, F, x, cs, h => (h.2.elim (·.2) (·.2.one)).1
  | .bld T e, .sh, F, x, cs, h => h.2.1
  | .bld T e, .ho, F, x, cs, h => h.2.1
  | .bld T e, .pr _ _, F, x, cs, h => h.2.1
  | .ifc t e, m, F, x, cs, h => by
    rcases h with h | ⟨_, ⟨rfl, _⟩ | ⟨y, v, cs', _, rfl, _⟩⟩
    · exact h.2.2.1
    · rfl
    · rfl
  | .fnv, m, F, x, cs, h => by
    rcases h.2 with h | h
    · exact h.2.1
    · rw [h.2]; rfl
  | .win s, m, F, x, cs, h => by
    rcases h with h | ⟨_, A, n, cap, rfl, _, _⟩
    · exact h.2.2.1
    · rfl
  | .opt b s, m, F, x, cs, h => by
    rcases h with h | ⟨y, _, h⟩
    · exact h.2.2.1
    · exact Rz_len w Sh s _ _ _ _ h

theorem heap_lt {w : World} {g : Nat} {o : Obj} (h : w.heap[g]? = some o) : g < w.heap.size := by
  rcases Nat.lt_or_ge g w.heap.size with h' | h'
  · exact h'
  · rw [Array.getElem?_eq_none h'] at h; cases h

theorem Rz_lt (w : World) (Sh : Nat → Prop) : ∀ (k : Kt) (m : Mk) (F : List Nat) (x : k.T) (cs : List Value), Rz w Sh k m F x cs → ∀ b ∈ F, b < w.heap.size
  | .int _, m, F, x, cs, h, b, hb => by rw [h.1] at hb; cases hb
  | .bool, m, F, x, cs, h, b, hb => by rw [h.1] at hb; cases hb
  | .str, m, F, x, cs, h, b, hb => by rw [h.1] at hb; cases hb
  | .unit, m, F, x, cs, h, b, hb => by rw [h.1] at hb; cases hb
  | .pair a b, m, F, x, cs, h, g, hg => by
    obtain ⟨F1, F2, c1, c2, rfl, rfl, h1, h2⟩ := h
    rcases List.mem_append.1 hg with hg | hg
    · exact Rz_lt w Sh a _ _ _ _ h1 g hg
    · exact Rz_lt w Sh b _ _ _ _ h2 g hg
  | .arr n e, m, F, xs, cs, h, g, hg => by
    obtain ⟨F', x, c, hb, hr⟩ := h.2.mem hg
    exact Rz_lt w Sh e _ _ _ _ hr g hb
  | .sl T e, .ow m, F, xs, cs, h, g, hg => by
    rcases h with ⟨rfl, _⟩ | ⟨g', cap, C, Fe, rfl, rfl, hh, _, _, hr⟩
    · cases hg
    · rcases List.mem_cons.1 hg with rfl | hg
      · exact heap_lt hh
      · obtain ⟨F', x, c, hb, hr⟩ := hr.mem hg
        exact Rz_lt w Sh e _ _ _ _ hr g hb
  | .sl T e, .sh, F, xs, cs, h, g, hg => by rw [h.1] at hg; cases hg
  | .sl T e, .ho, F, xs, cs, h, g, hg => by rw [h.1] at hg; cases hg
  | .sl T e, .pr _ _, F, xs, cs, h, g, hg => by rw [h.1] at hg; cases hg
  | .ptr T e, .ow m, F, x, cs, h, g, hg => by
    obtain ⟨g', C, Fe, rfl, rfl, hh, hr⟩ := h
    rcases List.mem_cons.1 hg with rfl | hg
    · exact heap_lt hh
    · exact Rz_lt w Sh e _ _ _ _ hr g hg
  | .ptr T e, .sh, F, x, cs, h, g, hg => by rw [h.1] at hg; cases hg
  | .ptr T e, .ho, F, x, cs, h, g, hg => by rw [h.1] at hg; cases hg
  | .ptr T e, .pr _ _, F, x, cs, h, g, hg => by rw [h.1] at hg; cases hg
  | .unk, m, F, x, cs, h, g, hg => by rw [h.1] at hg; cases hg
  | .fn f e, m, F, x, cs, h, g, hg => by rw [h.1] at hg; cases hg
  | .bld T e, .ow m, F, x, cs, h, u, hu => by
    obtain ⟨g, p, v, Fb, rfl, rfl, hh, _, hb⟩ := h
    rcases List.mem_cons.1 hu with rfl | hu
    · exact heap_lt hh
    · rcases hb with ⟨_, _, rfl⟩ | ⟨h', cap, C, _, rfl, h2, _⟩
      · cases hu
      · rw [List.mem_singleton.1 hu]; exact heap_lt h2
  | .map a b, .ow m, F, x, cs, h, u, hu => by
    rcases h with ⟨_, rfl, _⟩ | ⟨g, es, ck, l, _, _, rfl, hh, _⟩
    · cases hu
    · rw [List.mem_singleton.1 hu]; exact heap_lt hh
  | .map a b, .sh, F, x, cs, h, g, hg => by rw [h.1] at hg; cases hg
  | .map a b, .ho, F, x, cs, h, g, hg => by rw [h.1] at hg; cases hg
  | .map a b, .pr _ _, F, x, cs, h, g, hg => by rw [h.1] at hg; cases hg
  | .bld T e, .sh, F, x, cs, h, g, hg => by rw [h.1] at hg; cases hg
  | .bld T e, .ho, F, x, cs, h, g, hg => by rw [h.1] at hg; cases hg
  | .bld T e, .pr _ _, F, x, cs, h, g, hg => by rw [h.1] at hg; cases hg
  | .ifc t e, m, F, x, cs, h, g, hg => by
    rcases h with h | ⟨_, ⟨_, _, rfl⟩ | ⟨y, v, cs', _, _, _, hr⟩⟩
    · rw [h.2.1] at hg; cases hg
    · cases hg
    · exact Rz_lt w Sh e _ _ _ _ hr g hg
  | .fnv, m, F, x, cs, h, g, hg => by rw [h.1] at hg; cases hg
  | .win s, m, F, x, cs, h, g, hg => by
    rcases h with h | ⟨_, A, n, cap, _, _, hr⟩
    · rw [h.2.1] at hg; cases hg
    · exact Rz_lt w Sh s _ _ _ _ hr g hg
  | .opt b s, m, F, x, cs, h, g, hg => by
    rcases h with h | ⟨y, _, h⟩
    · rw [h.2.1] at hg; cases hg
    · exact Rz_lt w Sh s _ _ _ _ h g hg

/-- From one world to another: what is not owned stays where it may lie. -/
structure Kp (w : World) (Sh : Nat → Prop) (w' : World) (Sh' : Nat → Prop) : Prop where
  size : w.heap.size ≤ w'.heap.size
  sh : ∀ b, Sh b → b < w.heap.size → w'.heap[b]? = w.heap[b]? ∧ Sh' b

theorem CellsAt.keep {w w' : World} {b o : Nat} {cs : List Value} (h : CellsAt w b o cs) (hb : w'.heap[b]? = w.heap[b]?) : CellsAt w' b o cs := by
  intro j v hj
  have := h j v hj
  unfold World.cell? at *
  rw [hb]
  exact this

theorem map_sh {w w' : World} {Sh Sh' : Nat → Prop} (hK : Kp w Sh w' Sh') {a b : Kt} {x : Option (List (a.T × b.T))} {cs : List Value} (h : MapSh w Sh a b x cs) : MapSh w' Sh' a b x cs := by
  refine h.imp id ?_
  rintro ⟨g, es, ck, l, h1, h2, h3, h4, h5, h6⟩
  obtain ⟨k1, k2⟩ := hK.sh g h3 h4
  exact ⟨g, es, ck, l, h1, h2, k2, Nat.lt_of_lt_of_le h4 hK.size, k1.trans h5, h6⟩
theorem Rz_keep {w w' : World} {Sh Sh' : Nat → Prop} (hK : Kp w Sh w' Sh') : ∀ (k : Kt) (m : Mk) (F : List Nat) (x : k.T) (cs : List Value),
    (∀ b ∈ F, w'.heap[b]? = w.heap[b]?) → Rz w Sh k m F x cs → Rz w' Sh' k m F x cs
  | .int _, m, F, x, cs, _, h => h
  | .bool, m, F, x, cs, _, h => h
  | .str, m, F, x, cs, _, h => h
  | .unit, m, F, x, cs, _, h => h
  | .pair a b, m, F, x, cs, hF, h => by
    obtain ⟨F1, F2, c1, c2, rfl, rfl, h1, h2⟩ := h
    exact ⟨F1, F2, c1, c2, rfl, rfl, Rz_keep hK a _ _ _ _ (fun b hb => hF b (List.mem_append_left _ hb)) h1, Rz_keep hK b _ _ _ _ (fun b hb => hF b (List.mem_append_right _ hb)) h2⟩
  | .arr n e, m, F, xs, cs, hF, h => ⟨h.1, h.2.imp fun F' x c hs hr => Rz_keep hK e _ _ _ _ (fun b hb => hF b (hs b hb)) hr⟩
  | .sl T e, .ow m, F, xs, cs, hF, h => by
    rcases h with h | ⟨g, cap, C, Fe, rfl, rfl, hh, hc, hl, hr⟩
    · exact .inl h
    · exact .inr ⟨g, cap, C, Fe, rfl, rfl, by rw [hF g (List.mem_cons_self ..)]; exact hh, hc, hl, hr.imp fun F' x c hs hr => Rz_keep hK e _ _ _ _ (fun b hb => hF b (List.mem_cons_of_mem _ (hs b hb))) hr⟩
  | .sl T e, .sh, F, xs, cs, hF, h => sl_sh hK e _ (fun F' x c hr => Rz_keep hK e _ _ _ _ (by intro b hb; cases hb) hr) xs cs h
  | .sl T e, .ho, F, xs, cs, hF, h => sl_sh hK e _ (fun F' x c hr => Rz_keep hK e _ _ _ _ (by intro b hb; cases hb) hr) xs cs h
  | .sl T e, .pr _ _, F, xs, cs, hF, h => sl_sh hK e _ (fun F' x c hr => Rz_keep hK e _ _ _ _ (by intro b hb; cases hb) hr) xs cs h
  | .ptr T e, .ow m, F, x, cs, hF, h => by
    obtain ⟨g, C, Fe, rfl, rfl, hh, hr⟩ := h
    exact ⟨g, C, Fe, rfl, rfl, by rw [hF g (List.mem_cons_self ..)]; exact hh, Rz_keep hK e _ _ _ _ (fun b hb => hF b (List.mem_cons_of_mem _ hb)) hr⟩
  | .ptr T e, .sh, F, x, cs, hF, h => ptr_sh hK e _ (fun x c hr => Rz_keep hK e _ _ _ _ (by intro b hb; cases hb) hr) x cs h
  | .ptr T e, .ho, F, x, cs, hF, h => ptr_sh hK e _ (fun x c hr => Rz_keep hK e _ _ _ _ (by intro b hb; cases hb) hr) x cs h
  | .ptr T e, .pr _ _, F, x, cs, hF, h => ptr_sh hK e _ (fun x c hr => Rz_keep hK e _ _ _ _ (by intro b hb; cases hb) hr) x cs h
  | .unk, m, F, x, cs, hF, h => h
  | .fn f e, m, F, x, cs, hF, h => ⟨h.1, h.2.imp id fun ⟨hm, vs, cc, h1, h2, h3⟩ => ⟨hm, vs, cc, h1, h2, Rz_keep hK e _ _ _ _ (by intro b hb; cases hb) h3⟩⟩
  | .bld T e, .ow m, F, x, cs, hF, h => by
    obtain ⟨g, p, v, Fb, rfl, rfl, hh, hp, hb⟩ := h
    exact ⟨g, p, v, Fb, rfl, rfl, by rw [hF g (List.mem_cons_self ..)]; exact hh, hp, hb.imp id fun ⟨h', cap, C, h1, h2, h3, h4⟩ => ⟨h', cap, C, h1, h2, by rw [hF h' (by simp [h2])]; exact h3, h4⟩⟩
  | .map a b, .ow m, F, x, cs, hF, h => by
    rcases h with h | ⟨g, es, ck, l, h1, h2, h3, h4, h5⟩
    · exact .inl h
    · exact .inr ⟨g, es, ck, l, h1, h2, h3, (hF g (by rw [h3]; exact List.mem_singleton_self _)).trans h4, h5⟩
  | .map a b, .sh, F, x, cs, hF, h => ⟨h.1, h.2.imp id fun h => ⟨h.1, map_sh hK h.2⟩⟩
  | .map a b, .ho, F, x, cs, hF, h => ⟨h.1, h.2.imp id fun h => ⟨h.1, map_sh hK h.2⟩⟩
  | .map a b, .pr _ _, F, x, cs, hF, h => ⟨h.1, h.2.imp id fun h => ⟨h.1, map_sh hK h.2⟩⟩
  | .bld T e, .sh, F, x, cs, hF, h => h
  | .bld T e, .ho, F, x, cs, hF, h => h
  | .bld T e, .pr _ _, F, x, cs, hF, h => h
  | .ifc t e, m, F, x, cs, hF, h => by
    rcases h with h | ⟨hm, h | ⟨y, v, cs', h1, h2, h3, h4⟩⟩
    · exact .inl h
    · exact .inr ⟨hm, .inl h⟩
    · exact .inr ⟨hm, .inr ⟨y, v, cs', h1, h2, h3, Rz_keep hK e _ _ _ _ hF h4⟩⟩
  | .fnv, m, F, x, cs, hF, h => h
  | .win s, m, F, x, cs, hF, h => by
    rcases h with h | ⟨hm, A, n, cap, h1, h2, hr⟩
    · exact .inl h
    · exact .inr ⟨hm, A, n, cap, h1, h2, Rz_keep hK s _ _ _ _ hF hr⟩
  | .opt b s, m, F, x, cs, hF, h => h.imp id fun ⟨y, h1, h2⟩ => ⟨y, h1, Rz_keep hK s _ _ _ _ hF h2⟩
  where
  sl_sh {w w' : World} {Sh Sh' : Nat → Prop} (hK : Kp w Sh w' Sh') (e : Kt) (m : Mk) {F : List Nat} (ih : ∀ (F' : List Nat) x c, Rz w Sh e .sh [] x c → Rz w' Sh' e .sh [] x c) (xs : List e.T) (cs : List Value)
      (h : F = [] ∧ ((m = .ho ∧ One cs) ∨ (m ≠ .ho ∧ ∃ A cap, cs = [.slice A xs.length cap] ∧ CapOk xs.length cap ∧
      (Nl A cap xs ∨ ∃ b o cc, A = some ⟨b, o, none⟩ ∧ Sh b ∧ b < w.heap.size ∧ RzL (Rz w Sh e .sh) [] xs cc ∧ CellsAt w b o cc)))) :
      F = [] ∧ ((m = .ho ∧ One cs) ∨ (m ≠ .ho ∧ ∃ A cap, cs = [.slice A xs.length cap] ∧ CapOk xs.length cap ∧
      (Nl A cap xs ∨ ∃ b o cc, A = some ⟨b, o, none⟩ ∧ Sh' b ∧ b < w'.heap.size ∧ RzL (Rz w' Sh' e .sh) [] xs cc ∧ CellsAt w' b o cc))) := by
    obtain ⟨hF, h⟩ := h
    refine ⟨hF, h.imp id ?_⟩
    rintro ⟨hm, A, cap, hcs, hl, h⟩
    refine ⟨hm, A, cap, hcs, hl, h.imp id ?_⟩
    rintro ⟨b, o, cc, hA, hS, hb, hr, hc⟩
    have := hK.sh b hS hb
    exact ⟨b, o, cc, hA, this.2, Nat.lt_of_lt_of_le hb hK.size, hr.imp_free fun F' x c hs hr => ih F' x c (by
      have : F' = [] := List.eq_nil_iff_forall_not_mem.2 fun b hb => by cases hs b hb
      rw [this] at hr; exact hr), hc.keep this.1⟩
  ptr_sh {w w' : World} {Sh Sh' : Nat → Prop} (hK : Kp w Sh w' Sh') (e : Kt) (m : Mk) {F : List Nat} (ih : ∀ x c, Rz w Sh e .sh [] x c → Rz w' Sh' e .sh [] x c) (x : e.T) (cs : List Value)
      (h : F = [] ∧ ((m = .ho ∧ One cs) ∨ (m ≠ .ho ∧ ∃ b o cc, cs = [.pointer (some ⟨b, o, none⟩)] ∧ Sh b ∧ b < w.heap.size ∧ Rz w Sh e .sh [] x cc ∧ CellsAt w b o cc))) :
      F = [] ∧ ((m = .ho ∧ One cs) ∨ (m ≠ .ho ∧ ∃ b o cc, cs = [.pointer (some ⟨b, o, none⟩)] ∧ Sh' b ∧ b < w'.heap.size ∧ Rz w' Sh' e .sh [] x cc ∧ CellsAt w' b o cc)) := by
    obtain ⟨hF, h⟩ := h
    refine ⟨hF, h.imp id ?_⟩
    rintro ⟨hm, b, o, cc, hcs, hS, hb, hr, hc⟩
    have := hK.sh b hS hb
    exact ⟨hm, b, o, cc, hcs, this.2, Nat.lt_of_lt_of_le hb hK.size, ih _ _ hr, hc.keep this.1⟩

theorem RzL.one {α : Type} {R : List Nat → α → List Value → Prop} {F : List Nat} {xs : List α} {cs : List Value} (h : RzL R F xs cs) (hi : ∀ F' x c, R F' x c → ∀ u ∈ c, u.oneCell' = true) : ∀ u ∈ cs, u.oneCell' = true := by
  induction h with
  | nil => intro u hu; cases hu
  | cons h t ih =>
    intro u hu
    rcases List.mem_append.1 hu with hu | hu
    · exact hi _ _ _ h u hu
    · exact ih u hu
theorem Rz_one (w : World) (Sh : Nat → Prop) : ∀ (k : Kt) (m : Mk) (F : List Nat) (x : k.T) (cs : List Value), Rz w Sh k m F x cs → ∀ u ∈ cs, u.oneCell' = true
  | .int _, m, F, x, cs, h, u, hu => by
    rcases h.2 with h | h
    · exact h.2.2 u hu
    · rw [h.2] at hu; rw [List.mem_singleton.1 hu]; rfl
  | .bool, m, F, x, cs, h, u, hu => by
    rcases h.2 with h | h
    · exact h.2.2 u hu
    · rw [h.2] at hu; rw [List.mem_singleton.1 hu]; rfl
  | .str, m, F, x, cs, h, u, hu => by
    rcases h.2 with h | h
    · exact h.2.2 u hu
    · rw [h.2] at hu; rw [List.mem_singleton.1 hu]; rfl
  | .unit, m, F, x, cs, h, u, hu => by rw [h.2] at hu; cases hu
  | .pair a b, m, F, x, cs, h, u, hu => by
    obtain ⟨F1, F2, c1, c2, rfl, rfl, h1, h2⟩ := h
    rcases List.mem_append.1 hu with hu | hu
    · exact Rz_one w Sh a _ _ _ _ h1 u hu
    · exact Rz_one w Sh b _ _ _ _ h2 u hu
  | .arr n e, m, F, xs, cs, h, u, hu => h.2.one (fun F' x c hr => Rz_one w Sh e _ _ _ _ hr) u hu
  | .sl T e, .ow m, F, xs, cs, h, u, hu => by
    rcases h with ⟨_, _, rfl⟩ | ⟨g, cap, C, Fe, rfl, _⟩ <;> rw [List.mem_singleton.1 hu] <;> rfl
  | .sl T e, .sh, F, xs, cs, h, u, hu => by
    rcases h.2 with h | ⟨_, A, cap, rfl, _⟩
    · exact h.2.2 u hu
    · rw [List.mem_singleton.1 hu]; rfl
  | .sl T e, .ho, F, xs, cs, h, u, hu => by
    rcases h.2 with h | ⟨_, A, cap, rfl, _⟩
    · exact h.2.2 u hu
    · rw [List.mem_singleton.1 hu]; rfl
  | .sl T e, .pr _ _, F, xs, cs, h, u, hu => by
    rcases h.2 with h | ⟨_, A, cap, rfl, _⟩
    · exact h.2.2 u hu
    · rw [List.mem_singleton.1 hu]; rfl
  | .ptr T e, .ow m, F, xs, cs, h, u, hu => by
    obtain ⟨g, C, Fe, rfl, _⟩ := h; rw [List.mem_singleton.1 hu]; rfl
  | .ptr T e, .sh, F, xs, cs, h, u, hu => by
    rcases h.2 with h | ⟨_, b, o, cc, rfl, _⟩
    · exact h.2.2 u hu
    · rw [List.mem_singleton.1 hu]; rfl
  | .ptr T e, .ho, F, xs, cs, h, u, hu => by
    rcases h.2 with h | ⟨_, b, o, cc, rfl, _⟩
    · exact h.2.2 u hu
    · rw [List.mem_singleton.1 hu]; rfl
  | .ptr T e, .pr _ _, F, xs, cs, h, u, hu => by
    rcases h.2 with h | ⟨_, b, o, cc, rfl, _⟩
    · exact h.2.2 u hu
    · rw [List.mem_singleton.1 hu]; rfl
  | .unk, m, F, x, cs, h, u, hu => h.2.2 u hu
  | .fn f e, m, F, x, cs, h, u, hu => by
    rcases h.2 with h | ⟨_, vs, cc, rfl, _⟩
    · exact h.2.2 u hu
    · rw [List.mem_singleton.1 hu]; rfl
  | .bld T e, .ow m, F, x, cs, h, u, hu => by
    obtain ⟨g, p, v, Fb, rfl, _⟩ := h
    rw [List.mem_singleton.1 hu]; rfl
  | .map a b, .ow m, F, x, cs, h, u, hu => by
    rcases h with ⟨_, _, rfl⟩ | ⟨g, es, ck, l, _, rfl, _⟩ <;> (rw [List.mem_singleton.1 hu]; rfl)
  | .map a b, .sh, F, x, cs, h, u, hu => (h.2.elim (·.2) (·.2.one)).2 u hu
  | .map a b, .ho, F, x, cs, h, u, hu => (h.2.elim (·.2) (·.2.one)).2 u hu
  | .map a b, .pr _ _, F, x, cs, h, u, hu => (h.2.elim (·.2) (·.2.one)).2 u hu
  | .bld T e, .sh, F, x, cs, h, u, hu => h.2.2 u hu
  | .bld T e, .ho, F, x, cs, h, u, hu => h.2.2 u hu
  | .bld T e, .pr _ _, F, x, cs, h, u, hu => h.2.2 u hu
  | .ifc t e, m, F, x, cs, h, u, hu => by
    rcases h with h | ⟨_, ⟨rfl, _⟩ | ⟨y, v, cs', _, rfl, _⟩⟩
    · exact h.2.2.2 u hu
    · rw [List.mem_singleton.1 hu]; rfl
    · rw [List.mem_singleton.1 hu]; rfl
  | .fnv, m, F, x, cs, h, u, hu => by
    rcases h.2 with h | h
    · exact h.2.2 u hu
    · rw [h.2] at hu; rw [List.mem_singleton.1 hu]; exact fnV_one _
  | .win s, m, F, x, cs, h, u, hu => by
    rcases h with h | ⟨_, A, n, cap, rfl, _, _⟩
    · exact h.2.2.2 u hu
    · rw [List.mem_singleton.1 hu]; rfl
  | .opt b s, m, F, x, cs, h, u, hu => by
    rcases h with h | ⟨y, _, h⟩
    · exact h.2.2.2.1 u hu
    · exact Rz_one w Sh s _ _ _ _ h u hu

theorem nil_of_sub {F F' : List Nat} (hF : F = []) (hs : ∀ b, b ∈ F' → b ∈ F) : F' = [] :=
  List.eq_nil_iff_forall_not_mem.2 fun b hb => by have := hs b hb; rw [hF] at this; cases this

theorem RzL.free {α : Type} {R R' : List Nat → α → List Value → Prop} {F : List Nat} {xs : List α} {cs : List Value} (h : RzL R F xs cs) (hi : ∀ F' x c, R F' x c → F' = [] ∧ R' [] x c) : F = [] ∧ RzL R' [] xs cs := by
  induction h with
  | nil => exact ⟨rfl, .nil⟩
  | cons h t ih =>
    obtain ⟨rfl, h1⟩ := hi _ _ _ h
    obtain ⟨rfl, h2⟩ := ih
    exact ⟨rfl, RzL.cons (F := []) (Fs := []) h1 h2⟩

/-- A mask that owns nothing. -/
theorem Rz_free {w : World} {Sh : Nat → Prop} : ∀ (k : Kt) (m : Mk) (F : List Nat) (x : k.T) (cs : List Value), m.free = true → Rz w Sh k m F x cs → F = [] ∧ Rz w Sh k .sh [] x cs
  | .int _, m, F, x, cs, hm, h => ⟨h.1, rfl, .inr ⟨by simp, (h.2.resolve_left fun h => by rw [h.1] at hm; cases hm).2⟩⟩
  | .bool, m, F, x, cs, hm, h => ⟨h.1, rfl, .inr ⟨by simp, (h.2.resolve_left fun h => by rw [h.1] at hm; cases hm).2⟩⟩
  | .str, m, F, x, cs, hm, h => ⟨h.1, rfl, .inr ⟨by simp, (h.2.resolve_left fun h => by rw [h.1] at hm; cases hm).2⟩⟩
  | .unit, m, F, x, cs, hm, h => ⟨h.1, rfl, h.2⟩
  | .pair a b, m, F, x, cs, hm, h => by
    obtain ⟨F1, F2, c1, c2, rfl, rfl, h1, h2⟩ := h
    have hml : m.l.free = true := by cases m <;> first | rfl | (cases hm; done) | exact (Bool.and_eq_true_iff.1 hm).1
    have hmr : m.r.free = true := by cases m <;> first | rfl | (cases hm; done) | exact (Bool.and_eq_true_iff.1 hm).2
    obtain ⟨e1, k1⟩ := Rz_free a _ _ _ _ hml h1
    obtain ⟨e2, k2⟩ := Rz_free b _ _ _ _ hmr h2
    subst e1 e2
    exact ⟨rfl, [], [], c1, c2, rfl, rfl, k1, k2⟩
  | .arr n e, m, F, xs, cs, hm, h => by
    have hme : m.e.free = true := by cases m <;> simp_all [Mk.e, Mk.free]
    have := h.2.free (R' := Rz w Sh e .sh) fun F' x c hr => Rz_free e _ _ _ _ hme hr
    exact ⟨this.1, h.1, this.2⟩
  | .sl T e, .ow m, F, xs, cs, hm, h => by cases hm
  | .sl T e, .sh, F, xs, cs, hm, h => ⟨h.1, rfl, h.2⟩
  | .sl T e, .ho, F, xs, cs, hm, h => by cases hm
  | .sl T e, .pr _ _, F, xs, cs, hm, h => ⟨h.1, rfl, h.2.imp (fun h => absurd h.1 (by simp)) fun h => ⟨by simp, h.2⟩⟩
  | .ptr T e, .ow m, F, x, cs, hm, h => by cases hm
  | .ptr T e, .sh, F, xs, cs, hm, h => ⟨h.1, rfl, h.2⟩
  | .ptr T e, .ho, F, xs, cs, hm, h => by cases hm
  | .ptr T e, .pr _ _, F, xs, cs, hm, h => ⟨h.1, rfl, h.2.imp (fun h => absurd h.1 (by simp)) fun h => ⟨by simp, h.2⟩⟩
  | .unk, m, F, x, cs, hm, h => ⟨h.1, rfl, h.2⟩
  | .fn f e, m, F, x, cs, hm, h => ⟨h.1, rfl, .inr ⟨by simp, (h.2.resolve_left fun h => by rw [h.1] at hm; cases hm).2⟩⟩
  | .map a b, .ow m, F, x, cs, hm, h => by cases hm
  | .map a b, .sh, F, xs, cs, hm, h => ⟨h.1, rfl, h.2⟩
  | .map a b, .ho, F, xs, cs, hm, h => by cases hm
  | .map a b, .pr _ _, F, xs, cs, hm, h => ⟨h.1, rfl, h.2.imp (fun h => absurd h.1 (by simp)) fun h => ⟨by simp, h.2⟩⟩
  | .bld T e, .ow m, F, x, cs, hm, h => by cases hm
  | .bld T e, .sh, F, xs, cs, hm, h => ⟨h.1, rfl, h.2⟩
  | .bld T e, .ho, F, xs, cs, hm, h => by cases hm
  | .bld T e, .pr _ _, F, xs, cs, hm, h => ⟨h.1, rfl, h.2⟩
  | .ifc t e, m, F, x, cs, hm, h => by
    have hme : m.e.free = true := by cases m <;> simp_all [Mk.e, Mk.free]
    rcases h with h | ⟨_, ⟨h1, h2, h3⟩ | ⟨y, v, cs', h1, h2, h3, h4⟩⟩
    · rw [h.1] at hm; cases hm
    · exact ⟨h3, .inr ⟨by simp, .inl ⟨h1, h2, rfl⟩⟩⟩
    · obtain ⟨i1, i2⟩ := Rz_free e _ _ _ _ hme h4
      exact ⟨i1, .inr ⟨by simp, .inr ⟨y, v, cs', h1, h2, h3, i2⟩⟩⟩
  | .fnv, m, F, x, cs, hm, h => ⟨h.1, rfl, .inr ⟨by simp, (h.2.resolve_left fun h => by rw [h.1] at hm; cases hm).2⟩⟩
  | .win s, m, F, x, cs, hm, h => by
    rcases h with h | ⟨_, A, n, cap, h1, h2, hr⟩
    · rw [h.1] at hm; cases hm
    · obtain ⟨i1, i2⟩ := Rz_free s _ _ _ _ hm hr
      exact ⟨i1, .inr ⟨by simp, A, n, cap, h1, h2, i2⟩⟩
  | .opt b s, m, F, x, cs, hm, h => by
    rcases h with ⟨h1, h2, h3⟩ | ⟨y, h1, h⟩
    · exact ⟨h2, .inl ⟨h1, rfl, h3⟩⟩
    · obtain ⟨i1, i2⟩ := Rz_free s _ _ _ _ hm h
      exact ⟨i1, .inr ⟨y, h1, i2⟩⟩

/-- And back. -/
theorem Rz_unfree {w : World} {Sh : Nat → Prop} : ∀ (k : Kt) (m : Mk) (x : k.T) (cs : List Value), m.free = true → Rz w Sh k .sh [] x cs → Rz w Sh k m [] x cs
  | .int _, m, x, cs, hm, h => ⟨rfl, .inr ⟨(by rintro rfl; cases hm), (h.2.resolve_left fun h => by cases h.1).2⟩⟩
  | .bool, m, x, cs, hm, h => ⟨rfl, .inr ⟨(by rintro rfl; cases hm), (h.2.resolve_left fun h => by cases h.1).2⟩⟩
  | .str, m, x, cs, hm, h => ⟨rfl, .inr ⟨(by rintro rfl; cases hm), (h.2.resolve_left fun h => by cases h.1).2⟩⟩
  | .unit, m, x, cs, hm, h => h
  | .pair a b, m, x, cs, hm, h => by
    obtain ⟨F1, F2, c1, c2, hF, rfl, h1, h2⟩ := h
    obtain ⟨rfl, rfl⟩ := List.append_eq_nil_iff.1 hF.symm
    have hml : m.l.free = true := by cases m <;> first | rfl | (cases hm; done) | exact (Bool.and_eq_true_iff.1 hm).1
    have hmr : m.r.free = true := by cases m <;> first | rfl | (cases hm; done) | exact (Bool.and_eq_true_iff.1 hm).2
    exact ⟨[], [], c1, c2, rfl, rfl, Rz_unfree a _ _ _ hml h1, Rz_unfree b _ _ _ hmr h2⟩
  | .arr n e, m, xs, cs, hm, h => by
    have hme : m.e.free = true := by cases m <;> simp_all [Mk.e, Mk.free]
    exact ⟨h.1, h.2.imp fun F' x c hF hr => by
      have h0 : F' = [] := nil_of_sub rfl hF
      subst h0
      exact Rz_unfree e _ _ _ hme hr⟩
  | .sl T e, .ow m, xs, cs, hm, h => by cases hm
  | .sl T e, .sh, xs, cs, hm, h => h
  | .sl T e, .ho, xs, cs, hm, h => by cases hm
  | .sl T e, .pr _ _, xs, cs, hm, h => ⟨rfl, h.2.imp (fun h => absurd h.1 (by simp)) fun h => ⟨by simp, h.2⟩⟩
  | .ptr T e, .ow m, x, cs, hm, h => by cases hm
  | .ptr T e, .sh, xs, cs, hm, h => h
  | .ptr T e, .ho, xs, cs, hm, h => by cases hm
  | .ptr T e, .pr _ _, xs, cs, hm, h => ⟨rfl, h.2.imp (fun h => absurd h.1 (by simp)) fun h => ⟨by simp, h.2⟩⟩
  | .unk, m, x, cs, hm, h => h
  | .fn f e, m, x, cs, hm, h => ⟨rfl, .inr ⟨(by rintro rfl; cases hm), (h.2.resolve_left fun h => by cases h.1).2⟩⟩
  | .map a b, .ow m, x, cs, hm, h => by cases hm
  | .map a b, .sh, xs, cs, hm, h => h
  | .map a b, .ho, xs, cs, hm, h => by cases hm
  | .map a b, .pr _ _, xs, cs, hm, h => ⟨rfl, h.2.imp (fun h => absurd h.1 (by simp)) fun h => ⟨by simp, h.2⟩⟩
  | .bld T e, .ow m, x, cs, hm, h => by cases hm
  | .bld T e, .sh, xs, cs, hm, h => h
  | .bld T e, .ho, xs, cs, hm, h => by cases hm
  | .bld T e, .pr _ _, xs, cs, hm, h => h
  | .ifc t e, m, x, cs, hm, h => by
    have hme : m.e.free = true := by cases m <;> simp_all [Mk.e, Mk.free]
    rcases h with h | ⟨_, ⟨h1, h2, h3⟩ | ⟨y, v, cs', h1, h2, h3, h4⟩⟩
    · cases h.1
    · exact .inr ⟨(by rintro rfl; cases hm), .inl ⟨h1, h2, rfl⟩⟩
    · exact .inr ⟨(by rintro rfl; cases hm), .inr ⟨y, v, cs', h1, h2, h3, Rz_unfree e _ _ _ hme h4⟩⟩
  | .fnv, m, x, cs, hm, h => ⟨rfl, .inr ⟨(by rintro rfl; cases hm), (h.2.resolve_left fun h => by cases h.1).2⟩⟩
  | .win s, m, x, cs, hm, h => by
    obtain ⟨_, A, n, cap, h1, h2, hr⟩ := h.resolve_left fun h => by cases h.1
    exact .inr ⟨(by rintro rfl; cases hm), A, n, cap, h1, h2, Rz_unfree s m _ _ hm hr⟩
  | .opt b s, m, x, cs, hm, h => h.imp id fun ⟨y, h1, h2⟩ => ⟨y, h1, Rz_unfree s m _ _ hm h2⟩

/-- No holes. -/
def Mk.whole : Mk → Bool
  | .sh => true
  | .ow m => m.whole
  | .pr a b => a.whole && b.whole
  | .ho => false

theorem cell_of_block {w : World} {g T o : Nat} {C : Array Value} {f : Nat × Nat} (h : w.heap[g]? = some (.cells C T f)) : w.cell? ⟨g, o, none⟩ = C[o]? := by
  simp [World.cell?, h]

theorem CellsAt_block {w : World} {g T n : Nat} {C : Array Value} {f : Nat × Nat} (h : w.heap[g]? = some (.cells C T f)) : CellsAt w g 0 (C.toList.take n) := by
  intro j v hj
  rw [cell_of_block h, Nat.zero_add]
  rw [List.getElem?_take] at hj
  split at hj
  · simpa using hj
  · cases hj

/-- What is owned may be given up: it is read from then on. -/
theorem Rz_share {w : World} {Sh Sh' : Nat → Prop} (hS : ∀ b, Sh b → b < w.heap.size → Sh' b) : ∀ (k : Kt) (m : Mk) (F : List Nat) (x : k.T) (cs : List Value), m.whole = true → (∀ b ∈ F, Sh' b) → Rz w Sh k m F x cs → Rz w Sh' k .sh [] x cs
  | .int _, m, F, x, cs, hm, hF, h => ⟨rfl, .inr ⟨by simp, (h.2.resolve_left fun h => by rw [h.1] at hm; cases hm).2⟩⟩
  | .bool, m, F, x, cs, hm, hF, h => ⟨rfl, .inr ⟨by simp, (h.2.resolve_left fun h => by rw [h.1] at hm; cases hm).2⟩⟩
  | .str, m, F, x, cs, hm, hF, h => ⟨rfl, .inr ⟨by simp, (h.2.resolve_left fun h => by rw [h.1] at hm; cases hm).2⟩⟩
  | .unit, m, F, x, cs, hm, hF, h => ⟨rfl, h.2⟩
  | .pair a b, m, F, x, cs, hm, hF, h => by
    obtain ⟨F1, F2, c1, c2, rfl, rfl, h1, h2⟩ := h
    have hml : m.l.whole = true := by cases m <;> first | rfl | (cases hm; done) | exact (Bool.and_eq_true_iff.1 hm).1
    have hmr : m.r.whole = true := by cases m <;> first | rfl | (cases hm; done) | exact (Bool.and_eq_true_iff.1 hm).2
    exact ⟨[], [], c1, c2, rfl, rfl, Rz_share hS a _ _ _ _ hml (fun b hb => hF b (List.mem_append_left _ hb)) h1, Rz_share hS b _ _ _ _ hmr (fun b hb => hF b (List.mem_append_right _ hb)) h2⟩
  | .arr n e, m, F, xs, cs, hm, hF, h => by
    have hme : m.e.whole = true := by cases m <;> simp_all [Mk.e, Mk.whole]
    exact ⟨h.1, h.2.imp_free fun F' x c hs hr => Rz_share hS e _ _ _ _ hme (fun b hb => hF b (hs b hb)) hr⟩
  | .sl T e, .ow m, F, xs, cs, hm, hF, h => by
    refine ⟨rfl, .inr ⟨by simp, ?_⟩⟩
    rcases h with ⟨rfl, rfl, rfl⟩ | ⟨g, cap, C, Fe, rfl, rfl, hh, hc, hl, hr⟩
    · exact ⟨none, 0, rfl, capOk0, .inl ⟨rfl, fun _ => rfl⟩⟩
    · refine ⟨some ⟨g, 0, none⟩, cap, rfl, hl, .inr ⟨g, 0, _, rfl, hF g (List.mem_cons_self ..), heap_lt hh, hr.imp_free fun F' x c hs hr => Rz_share hS e m _ _ _ hm (fun b hb => hF b (List.mem_cons_of_mem _ (hs b hb))) hr, CellsAt_block hh⟩⟩
  | .sl T e, .sh, F, xs, cs, hm, hF, h => sl_sh e .sh (by simp) xs cs h
  | .sl T e, .ho, F, xs, cs, hm, hF, h => by cases hm
  | .sl T e, .pr _ _, F, xs, cs, hm, hF, h => sl_sh e (.pr _ _) (by simp) xs cs h
  | .ptr T e, .ow m, F, x, cs, hm, hF, h => by
    obtain ⟨g, C, Fe, rfl, rfl, hh, hr⟩ := h
    refine ⟨rfl, .inr ⟨by simp, g, 0, C.toList, rfl, hF g (List.mem_cons_self ..), heap_lt hh, Rz_share hS e m _ _ _ hm (fun b hb => hF b (List.mem_cons_of_mem _ hb)) hr, ?_⟩⟩
    have := CellsAt_block (n := C.toList.length) hh
    rwa [List.take_length] at this
  | .ptr T e, .sh, F, xs, cs, hm, hF, h => ptr_sh e .sh (by simp) xs cs h
  | .ptr T e, .ho, F, xs, cs, hm, hF, h => by cases hm
  | .ptr T e, .pr _ _, F, xs, cs, hm, hF, h => ptr_sh e (.pr _ _) (by simp) xs cs h
  | .unk, m, F, x, cs, hm, hF, h => ⟨rfl, h.2⟩
  | .fn f e, m, F, x, cs, hm, hF, h => ⟨rfl, .inr ⟨by simp, by
      obtain ⟨_, vs, cc, h1, h2, h3⟩ := h.2.resolve_left fun h => by rw [h.1] at hm; cases hm
      exact ⟨vs, cc, h1, h2, Rz_keep ⟨Nat.le_refl _, fun b hb hlt => ⟨rfl, hS b hb hlt⟩⟩ e _ _ _ _ (fun _ _ => rfl) h3⟩⟩⟩
  | .bld T e, .ow m, F, x, cs, hm, hF, h => ⟨rfl, Rz_len w Sh (.bld T e) (.ow m) F x cs h, Rz_one w Sh (.bld T e) (.ow m) F x cs h⟩
  | .map a b, .ow m, F, x, cs, hm, hF, h => ⟨rfl, .inr ⟨by simp, by
      rcases h with ⟨h1, _, h2⟩ | ⟨g, es, ck, l, h1, h2, h3, h4, h5⟩
      · exact .inl ⟨h1, h2⟩
      · exact .inr ⟨g, es, ck, l, h1, h2, hF g (by rw [h3]; exact List.mem_singleton_self _), heap_lt h4, h4, h5⟩⟩⟩
  | .map a b, .sh, F, xs, cs, hm, hF, h => ⟨rfl, h.2.imp id fun h => ⟨h.1, map_sh ⟨Nat.le_refl _, fun b hb hlt => ⟨rfl, hS b hb hlt⟩⟩ h.2⟩⟩
  | .map a b, .ho, F, xs, cs, hm, hF, h => by cases hm
  | .map a b, .pr _ _, F, xs, cs, hm, hF, h => ⟨rfl, .inr ⟨by simp, map_sh ⟨Nat.le_refl _, fun b hb hlt => ⟨rfl, hS b hb hlt⟩⟩ (h.2.resolve_left fun h => absurd h.1 (by simp)).2⟩⟩
  | .bld T e, .sh, F, xs, cs, hm, hF, h => ⟨rfl, h.2⟩
  | .bld T e, .ho, F, xs, cs, hm, hF, h => ⟨rfl, h.2⟩
  | .bld T e, .pr _ _, F, xs, cs, hm, hF, h => ⟨rfl, h.2⟩
  | .ifc t e, m, F, x, cs, hm, hF, h => by
    have hme : m.e.whole = true := by cases m <;> simp_all [Mk.e, Mk.whole]
    rcases h with h | ⟨_, ⟨h1, h2, h3⟩ | ⟨y, v, cs', h1, h2, h3, h4⟩⟩
    · rw [h.1] at hm; cases hm
    · exact .inr ⟨by simp, .inl ⟨h1, h2, rfl⟩⟩
    · exact .inr ⟨by simp, .inr ⟨y, v, cs', h1, h2, h3, Rz_share hS e _ _ _ _ hme hF h4⟩⟩
  | .fnv, m, F, x, cs, hm, hF, h => ⟨rfl, .inr ⟨by simp, (h.2.resolve_left fun h => by rw [h.1] at hm; cases hm).2⟩⟩
  | .win s, m, F, x, cs, hm, hF, h => by
    rcases h with h | ⟨_, A, n, cap, h1, h2, hr⟩
    · rw [h.1] at hm; cases hm
    · exact .inr ⟨by simp, A, n, cap, h1, h2, Rz_share hS s m F x.1 _ hm hF hr⟩
  | .opt b s, m, F, x, cs, hm, hF, h => by
    rcases h with ⟨h1, h2, h3⟩ | ⟨y, h1, h⟩
    · exact .inl ⟨h1, rfl, h3⟩
    · exact .inr ⟨y, h1, Rz_share hS s m _ _ _ hm hF h⟩
  where
  sl_sh (e : Kt) (m : Mk) (hm : m ≠ .ho) {F : List Nat} (xs : List e.T) (cs : List Value)
      (h : F = [] ∧ ((m = .ho ∧ One cs) ∨ (m ≠ .ho ∧ ∃ A cap, cs = [.slice A xs.length cap] ∧ CapOk xs.length cap ∧
      (Nl A cap xs ∨ ∃ b o cc, A = some ⟨b, o, none⟩ ∧ Sh b ∧ b < w.heap.size ∧ RzL (Rz w Sh e .sh) [] xs cc ∧ CellsAt w b o cc)))) :
      ([] : List Nat) = [] ∧ (((Mk.sh) = .ho ∧ One cs) ∨ ((Mk.sh) ≠ .ho ∧ ∃ A cap, cs = [.slice A xs.length cap] ∧ CapOk xs.length cap ∧
      (Nl A cap xs ∨ ∃ b o cc, A = some ⟨b, o, none⟩ ∧ Sh' b ∧ b < w.heap.size ∧ RzL (Rz w Sh' e .sh) [] xs cc ∧ CellsAt w b o cc))) := by
    obtain ⟨_, h⟩ := h
    obtain ⟨_, A, cap, hcs, hl, h⟩ := h.resolve_left fun h => hm h.1
    refine ⟨rfl, .inr ⟨by simp, A, cap, hcs, hl, h.imp id ?_⟩⟩
    rintro ⟨b, o, cc, hA, hSb, hb, hr, hc⟩
    exact ⟨b, o, cc, hA, hS b hSb hb, hb, hr.imp fun F' x c hs hr => Rz_keep ⟨Nat.le_refl _, fun b hb hlt => ⟨rfl, hS b hb hlt⟩⟩ e _ _ _ _ (fun _ _ => rfl) hr, hc⟩
  ptr_sh (e : Kt) (m : Mk) (hm : m ≠ .ho) {F : List Nat} (x : e.T) (cs : List Value)
      (h : F = [] ∧ ((m = .ho ∧ One cs) ∨ (m ≠ .ho ∧ ∃ b o cc, cs = [.pointer (some ⟨b, o, none⟩)] ∧ Sh b ∧ b < w.heap.size ∧ Rz w Sh e .sh [] x cc ∧ CellsAt w b o cc))) :
      ([] : List Nat) = [] ∧ (((Mk.sh) = .ho ∧ One cs) ∨ ((Mk.sh) ≠ .ho ∧ ∃ b o cc, cs = [.pointer (some ⟨b, o, none⟩)] ∧ Sh' b ∧ b < w.heap.size ∧ Rz w Sh' e .sh [] x cc ∧ CellsAt w b o cc)) := by
    obtain ⟨_, h⟩ := h
    obtain ⟨_, b, o, cc, hcs, hSb, hb, hr, hc⟩ := h.resolve_left fun h => hm h.1
    exact ⟨rfl, .inr ⟨by simp, b, o, cc, hcs, hS b hSb hb, hb, Rz_keep ⟨Nat.le_refl _, fun b hb hlt => ⟨rfl, hS b hb hlt⟩⟩ e _ _ _ _ (fun _ _ => rfl) hr, hc⟩⟩
end Go.Lift

namespace Go.Lift
set_option linter.unusedVariables false
set_option linter.unusedSimpArgs false

/-- A step to a part: of a pair, of an array or slice (by its place), through a pointer. -/
inductive St (ι : Type) where
  | l
  | r
  | ix (i : ι)
  | ad
  | sm
  deriving Inhabited

def St.map {ι κ : Type} (f : ι → κ) : St ι → St κ
  | .l => .l
  | .r => .r
  | .ix i => .ix (f i)
  | .ad => .ad
  | .sm => .sm

abbrev Path (E : Type) := List (St (E → Nat))
/-- The path at given data. -/
def Path.at {E : Type} (p : Path E) (e : E) : List (St Nat) := p.map (St.map fun f => f e)

structure Lens (E : Type) (k : Kt) where
  k' : Kt
  m' : Mk
  get : E → k.T → k'.T
  put : E → k.T → k'.T → k.T
  ok : E → k.T → Bool

def lens {E : Type} : (k : Kt) → Mk → Path E → Option (Lens E k)
  | k, m, [] => some ⟨k, m, fun _ x => x, fun _ _ y => y, fun _ _ => true⟩
  | .pair a b, m, .l :: p => match lens a m.l p with
    | none => none
    | some L => some ⟨L.k', L.m', fun e x => L.get e x.1, fun e x y => (L.put e x.1 y, x.2), fun e x => L.ok e x.1⟩
  | .pair a b, m, .r :: p => match lens b m.r p with
    | none => none
    | some L => some ⟨L.k', L.m', fun e x => L.get e x.2, fun e x y => (x.1, L.put e x.2 y), fun e x => L.ok e x.2⟩
  | .arr n a, m, .ix i :: p => match lens a m.e p with
    | none => none
    | some L => some ⟨L.k', L.m', fun e x => L.get e (x.getD (i e) a.dflt), fun e x y => x.set (i e) (L.put e (x.getD (i e) a.dflt) y), fun e x => decide (i e < x.length) && L.ok e (x.getD (i e) a.dflt)⟩
  | .sl _ a, .ow m, .ix i :: p => match lens a m p with
    | none => none
    | some L => some ⟨L.k', L.m', fun e x => L.get e (x.getD (i e) a.dflt), fun e x y => x.set (i e) (L.put e (x.getD (i e) a.dflt) y), fun e x => decide (i e < x.length) && L.ok e (x.getD (i e) a.dflt)⟩
  | .ptr _ a, .ow m, .ad :: p => match lens a m p with
    | none => none
    | some L => some ⟨L.k', L.m', L.get, L.put, L.ok⟩
  | .win (.sl _ a), .ow m, .ix i :: p => match lens a m p with
    | none => none
    | some L => some ⟨L.k', L.m', fun e x => L.get e (x.1.getD (i e) a.dflt), fun e x y => (x.1.set (i e) (L.put e (x.1.getD (i e) a.dflt) y), x.2), fun e x => decide (i e < x.2) && (decide (i e < x.1.length) && L.ok e (x.1.getD (i e) a.dflt))⟩
  | .opt b a, m, .sm :: p => match lens a m p with
    | none => none
    | some L => some ⟨L.k', L.m', fun e x => L.get e (x.getD a.dflt), fun e x y => some (L.put e (x.getD a.dflt) y), fun e x => x.isSome && L.ok e (x.getD a.dflt)⟩
  | _, _, _ => none

/-- Where a part lies: a block and a cell; loc: where the whole lies (none: in no memory). -/
def adr (w : World) : (k : Kt) → Option (Nat × Nat) → List Value → List (St Nat) → Option (Nat × Nat)
  | _, loc, _, [] => loc
  | .pair a _, loc, cs, .l :: p => adr w a loc (cs.take a.size) p
  | .pair a b, loc, cs, .r :: p => adr w b (loc.map fun q => (q.1, q.2 + a.size)) (cs.drop a.size) p
  | .arr _ e, loc, cs, .ix i :: p => adr w e (loc.map fun q => (q.1, q.2 + i * e.size)) ((cs.drop (i * e.size)).take e.size) p
  | .sl _ e, _, [.slice (some ⟨g, 0, none⟩) _ _], .ix i :: p => match w.heap[g]? with
    | some (.cells C _ _) => adr w e (some (g, i * e.size)) ((C.toList.drop (i * e.size)).take e.size) p
    | _ => none
  | .ptr _ e, _, [.pointer (some ⟨g, 0, none⟩)], .ad :: p => match w.heap[g]? with
    | some (.cells C _ _) => adr w e (some (g, 0)) C.toList p
    | _ => none
  | .win (.sl _ e), _, [.slice (some ⟨g, 0, none⟩) _ _], .ix i :: p => match w.heap[g]? with
    | some (.cells C _ _) => adr w e (some (g, i * e.size)) ((C.toList.drop (i * e.size)).take e.size) p
    | _ => none
  | .opt b a, loc, cs, .sm :: p => adr w a loc cs p
  | _, _, _, _ => none

/-- The mask behind a change of the part at a path to another mask. -/
def MSet : (k : Kt) → Mk → List (St Nat) → Mk → Mk → Prop
  | _, _, [], mn, mr => mr = mn
  | .pair a _, m, .l :: p, mn, mr => MSet a m.l p mn mr.l ∧ mr.r = m.r
  | .pair _ b, m, .r :: p, mn, mr => MSet b m.r p mn mr.r ∧ mr.l = m.l
  | .arr _ e, m, .ix _ :: p, mn, mr => MSet e m.e p mn m.e ∧ mr.e = m.e
  | .sl _ e, .ow m, .ix _ :: p, mn, mr => MSet e m p mn m ∧ mr = .ow m
  | .ptr _ e, .ow m, .ad :: p, mn, mr => ∃ m2, mr = .ow m2 ∧ MSet e m p mn m2
  | .win (.sl _ e), .ow m, .ix _ :: p, mn, mr => MSet e m p mn m ∧ mr = .ow m
  | .opt b a, m, .sm :: p, mn, mr => MSet a m p mn mr
  | _, _, _, _, _ => False

inductive LensIs {E : Type} : (k : Kt) → Mk → Path E → Lens E k → Prop
  | nil (k : Kt) (m : Mk) : LensIs k m [] ⟨k, m, fun _ x => x, fun _ _ y => y, fun _ _ => true⟩
  | l {a b : Kt} {m : Mk} {p : Path E} {L : Lens E a} (h : LensIs a m.l p L) : LensIs (.pair a b) m (.l :: p) ⟨L.k', L.m', fun e x => L.get e x.1, fun e x y => (L.put e x.1 y, x.2), fun e x => L.ok e x.1⟩
  | r {a b : Kt} {m : Mk} {p : Path E} {L : Lens E b} (h : LensIs b m.r p L) : LensIs (.pair a b) m (.r :: p) ⟨L.k', L.m', fun e x => L.get e x.2, fun e x y => (x.1, L.put e x.2 y), fun e x => L.ok e x.2⟩
  | arr {n : Nat} {a : Kt} {m : Mk} {i : E → Nat} {p : Path E} {L : Lens E a} (h : LensIs a m.e p L) : LensIs (.arr n a) m (.ix i :: p) ⟨L.k', L.m', fun e x => L.get e (x.getD (i e) a.dflt), fun e x y => x.set (i e) (L.put e (x.getD (i e) a.dflt) y), fun e x => decide (i e < x.length) && L.ok e (x.getD (i e) a.dflt)⟩
  | sl {T : TypeId} {a : Kt} {m : Mk} {i : E → Nat} {p : Path E} {L : Lens E a} (h : LensIs a m p L) : LensIs (.sl T a) (.ow m) (.ix i :: p) ⟨L.k', L.m', fun e x => L.get e (x.getD (i e) a.dflt), fun e x y => x.set (i e) (L.put e (x.getD (i e) a.dflt) y), fun e x => decide (i e < x.length) && L.ok e (x.getD (i e) a.dflt)⟩
  | ad {T : TypeId} {a : Kt} {m : Mk} {p : Path E} {L : Lens E a} (h : LensIs a m p L) : LensIs (.ptr T a) (.ow m) (.ad :: p) ⟨L.k', L.m', L.get, L.put, L.ok⟩
  | win {T : TypeId} {a : Kt} {m : Mk} {i : E → Nat} {p : Path E} {L : Lens E a} (h : LensIs a m p L) : LensIs (.win (.sl T a)) (.ow m) (.ix i :: p) ⟨L.k', L.m', fun e x => L.get e (x.1.getD (i e) a.dflt), fun e x y => (x.1.set (i e) (L.put e (x.1.getD (i e) a.dflt) y), x.2), fun e x => decide (i e < x.2) && (decide (i e < x.1.length) && L.ok e (x.1.getD (i e) a.dflt))⟩
  | opt {b : Bool} {a : Kt} {m : Mk} {p : Path E} {L : Lens E a} (h : LensIs a m p L) : LensIs (.opt b a) m (.sm :: p) ⟨L.k', L.m', fun e x => L.get e (x.getD a.dflt), fun e x y => some (L.put e (x.getD a.dflt) y), fun e x => x.isSome && L.ok e (x.getD a.dflt)⟩

theorem lens_is {E : Type} : ∀ (p : Path E) (k : Kt) (m : Mk) (L : Lens E k), lens k m p = some L → LensIs k m p L
  | [], k, m, L, h => by
    simp only [lens, Option.some.injEq] at h
    subst h
    exact .nil k m
  | s :: p, k, m, L, h => by
    cases k <;> cases s <;> try (simp [lens] at h; done)
    case pair.l a b =>
      simp only [lens] at h
      split at h
      · cases h
      · rename_i L' hL
        obtain rfl := Option.some.inj h
        exact .l (lens_is p _ _ _ hL)
    case pair.r a b =>
      simp only [lens] at h
      split at h
      · cases h
      · rename_i L' hL
        obtain rfl := Option.some.inj h
        exact .r (lens_is p _ _ _ hL)
    case arr.ix n a i =>
      simp only [lens] at h
      split at h
      · cases h
      · rename_i L' hL
        obtain rfl := Option.some.inj h
        exact .arr (lens_is p _ _ _ hL)
    case sl.ix T a i =>
      cases m <;> try (simp [lens] at h; done)
      simp only [lens] at h
      split at h
      · cases h
      · rename_i L' hL
        obtain rfl := Option.some.inj h
        exact .sl (lens_is p _ _ _ hL)
    case ptr.ad T a =>
      cases m <;> try (simp [lens] at h; done)
      simp only [lens] at h
      split at h
      · cases h
      · rename_i L' hL
        obtain rfl := Option.some.inj h
        exact .ad (lens_is p _ _ _ hL)
    case win.ix s i =>
      cases s <;> try (simp [lens] at h; done)
      cases m <;> try (simp [lens] at h; done)
      simp only [lens] at h
      split at h
      · cases h
      · rename_i L' hL
        obtain rfl := Option.some.inj h
        exact .win (lens_is p _ _ _ hL)
    case opt.sm b a =>
      simp only [lens] at h
      split at h
      · cases h
      · rename_i L' hL
        obtain rfl := Option.some.inj h
        exact .opt (lens_is p _ _ _ hL)

theorem MSet_same {E : Type} (e : E) {p : Path E} {k : Kt} {m : Mk} {L : Lens E k} (h : LensIs k m p L) : MSet k m (p.at e) L.m' m := by
  induction h with
  | nil => simp [Path.at, MSet]
  | l h ih => exact ⟨ih, rfl⟩
  | r h ih => exact ⟨ih, rfl⟩
  | arr h ih => exact ⟨ih, rfl⟩
  | sl h ih => exact ⟨ih, rfl⟩
  | ad h ih => exact ⟨_, rfl, ih⟩
  | win h ih => exact ⟨ih, rfl⟩
  | opt h ih => exact ih

/-- What a part's hole gives: the part itself; and behind a change of it the whole anew. -/
def Hole (w : World) (Sh : Nat → Prop) (k : Kt) (m : Mk) (F : List Nat) (cs : List Value) (p : List (St Nat)) (k' : Kt) (m' : Mk) (y : k'.T) (put : k'.T → k.T) : Prop :=
  ∃ Fa Fo Fb c, F = Fa ++ (Fo ++ Fb) ∧ Rz w Sh k' m' Fo y c ∧
    ((∃ c1 c2, cs = c1 ++ (c ++ c2) ∧ (∀ loc, adr w k loc cs p = loc.map fun q => (q.1, q.2 + c1.length)) ∧
        ∀ w' Sh' mn mr Fn y' cn, Kp w Sh w' Sh' → (∀ b, b ∈ Fa ++ Fb → w'.heap[b]? = w.heap[b]?) → MSet k m p mn mr → Rz w' Sh' k' mn Fn y' cn →
          Rz w' Sh' k mr (Fa ++ (Fn ++ Fb)) (put y') (c1 ++ (cn ++ c2)) ∧ ∀ loc, adr w' k loc (c1 ++ (cn ++ c2)) p = loc.map fun q => (q.1, q.2 + c1.length)) ∨
     (∃ b c1 c2 T, b ∈ Fa ∧ (∀ loc, adr w k loc cs p = some (b, c1.length)) ∧ w.heap[b]? = some (.cells (c1 ++ (c ++ c2)).toArray T (0, 0)) ∧
        ∀ w' Sh' mn mr Fn y' cn, Kp w Sh w' Sh' → (∀ b', b' ∈ Fa ++ Fb → b' ≠ b → w'.heap[b']? = w.heap[b']?) → w'.heap[b]? = some (.cells (c1 ++ (cn ++ c2)).toArray T (0, 0)) → MSet k m p mn mr → Rz w' Sh' k' mn Fn y' cn →
          Rz w' Sh' k mr (Fa ++ (Fn ++ Fb)) (put y') cs ∧ ∀ loc, adr w' k loc cs p = some (b, c1.length)))

theorem take_len {α : Type} (a b : List α) {n : Nat} (h : a.length = n) : (a ++ b).take n = a := by subst h; simp
theorem drop_len {α : Type} (a b : List α) {n : Nat} (h : a.length = n) : (a ++ b).drop n = b := by subst h; simp


theorem add0 (loc : Option (Nat × Nat)) : (loc.map fun q => (q.1, q.2 + 0)) = loc := by cases loc <;> rfl

theorem adr_nil (w : World) (k : Kt) (loc : Option (Nat × Nat)) (cs : List Value) : adr w k loc cs [] = loc := by
  cases k <;> simp [adr]
def HoleIn (w : World) (Sh : Nat → Prop) (k : Kt) (m : Mk) (F : List Nat) (cs : List Value) (p : List (St Nat)) (k' : Kt) (m' : Mk) (y : k'.T) (put : k'.T → k.T) : Prop :=
  ∃ Fa Fo Fb c, F = Fa ++ (Fo ++ Fb) ∧ Rz w Sh k' m' Fo y c ∧
     (∃ b c1 c2 T, b ∈ Fa ∧ (∀ loc, adr w k loc cs p = some (b, c1.length)) ∧ w.heap[b]? = some (.cells (c1 ++ (c ++ c2)).toArray T (0, 0)) ∧
        ∀ w' Sh' mn mr Fn y' cn, Kp w Sh w' Sh' → (∀ b', b' ∈ Fa ++ Fb → b' ≠ b → w'.heap[b']? = w.heap[b']?) → w'.heap[b]? = some (.cells (c1 ++ (cn ++ c2)).toArray T (0, 0)) → MSet k m p mn mr → Rz w' Sh' k' mn Fn y' cn →
          Rz w' Sh' k mr (Fa ++ (Fn ++ Fb)) (put y') cs ∧ ∀ loc, adr w' k loc cs p = some (b, c1.length))
theorem hole_sl {E : Type} (e : E) {T : TypeId} {a : Kt} {m : Mk} {i : E → Nat} {p : Path E} {L : Lens E a}
    (ih : ∀ {w : World} {Sh : Nat → Prop} {F : List Nat} {x : a.T} {cs : List Value}, L.ok e x = true → F.Nodup → Rz w Sh a m F x cs → Hole w Sh a m F cs (p.at e) L.k' L.m' (L.get e x) (L.put e x)) :
    ∀ {w : World} {Sh : Nat → Prop} {F : List Nat} {x : List a.T} {cs : List Value}, (decide (i e < x.length) && L.ok e (x.getD (i e) a.dflt)) = true → F.Nodup → Rz w Sh (.sl T a) (.ow m) F x cs →
      HoleIn w Sh (.sl T a) (.ow m) F cs (Path.at (.ix i :: p) e) L.k' L.m' (L.get e (x.getD (i e) a.dflt)) (fun y => x.set (i e) (L.put e (x.getD (i e) a.dflt) y)) := by
  intro w Sh F x cs hok hnd h
  simp only [Bool.and_eq_true, decide_eq_true_eq] at hok
  obtain ⟨hi, hok⟩ := hok
  rcases h with ⟨_, rfl, _⟩ | ⟨g, cap, C, Fe, rfl, rfl, hh, hC, hcap, hx⟩
  · exact absurd hi (by simp)
  generalize hD : C.toList.take (x.length * a.size) = D at hx
  generalize hR : C.toList.drop (x.length * a.size) = R
  have hCD : C.toList = D ++ R := by rw [← hD, ← hR, List.take_append_drop]
  have hlD := hx.len (Rz_len _ _ _ _)
  obtain ⟨F1, Fi, F2, d1, d, d2, rfl, rfl, h1, h2, h3⟩ := hx.get hi
  have hx' : x.getD (i e) a.dflt = x[i e] := by simp [hi]
  rw [hx'] at hok
  have hl1 := h1.len (Rz_len _ _ _ _)
  rw [List.length_take, Nat.min_eq_left (by omega)] at hl1
  have hl2 := Rz_len _ _ _ _ _ _ _ h2
  have hg0 := (List.nodup_cons.1 hnd).1
  have hnd := (List.nodup_cons.1 hnd).2
  have hndi : Fi.Nodup := (hnd.sublist (List.sublist_append_right _ _)).sublist (List.sublist_append_left _ _)
  have hadr : ∀ loc len cap, adr w (.sl T a) loc [.slice (some ⟨g, 0, none⟩) len cap] (Path.at (.ix i :: p) e) = adr w a (some (g, i e * a.size)) d (p.at e) := by
    intro loc len cap
    simp only [Path.at, List.map_cons, St.map, adr, hh]
    rw [hCD, List.append_assoc, drop_len _ _ hl1, List.append_assoc, take_len _ _ hl2]
  obtain ⟨Fa, Fo, Fb, c, rfl, hc, H⟩ := ih hok hndi h2
  refine ⟨g :: (F1 ++ Fa), Fo, Fb ++ F2, c, by simp, by (show Rz w Sh L.k' L.m' Fo (L.get e (x.getD (i e) a.dflt)) c); rw [hx']; exact hc, ?_⟩
  rcases H with ⟨c1, c2, rfl, ha, hb⟩ | ⟨b, c1, c2, T', hg, ha, hh', hb⟩
  · refine ⟨g, d1 ++ c1, c2 ++ (d2 ++ R), T, List.mem_cons_self .., fun loc => ?_, ?_, fun w' Sh' mn mr Fn y' cn hK hs hw hm hr => ?_⟩
    · rw [hadr, ha]
      simp [hl1]
    · rw [hh]
      have : C = (d1 ++ c1 ++ (c ++ (c2 ++ (d2 ++ R)))).toArray := by
        apply Array.toList_inj.1
        rw [hCD]; simp
      rw [← this]
    · obtain ⟨hm1, rfl⟩ := hm
      have := hb w' Sh' mn m Fn y' cn hK (fun b hb => hs b (by simp only [List.mem_append, List.mem_cons] at hb ⊢; grind) (fun hbg => hg0 (by subst hbg; simp only [List.mem_append] at hb ⊢; grind))) hm1 hr
      have hln := Rz_len _ _ _ _ _ _ _ this.1
      refine ⟨.inr ⟨g, cap, _, F1 ++ ((Fa ++ (Fn ++ Fb)) ++ F2), by simp, by simp, hw, ?_, by simpa using hcap, ?_⟩, fun loc => ?_⟩
      · rw [← hC]
        have := congrArg List.length hCD
        simp only [Array.length_toList] at this
        rw [this]
        simp only [List.size_toArray, List.length_append] at hln hl2 ⊢
        omega
      · simp only [List.length_set]
        rw [show d1 ++ c1 ++ (cn ++ (c2 ++ (d2 ++ R))) = (d1 ++ ((c1 ++ (cn ++ c2)) ++ d2)) ++ R by simp, take_len]
        · have := RzL.put hi (h1.imp fun F' x c hF hr => Rz_keep hK a _ _ _ _ (fun b hb => hs b (by have := hF b hb; simp only [List.mem_append, List.mem_cons]; grind) (fun hbg => hg0 (by have := hF b hb; subst hbg; simp only [List.mem_append]; grind))) hr) this.1 (h3.imp fun F' x c hF hr => Rz_keep hK a _ _ _ _ (fun b hb => hs b (by have := hF b hb; simp only [List.mem_append, List.mem_cons]; grind) (fun hbg => hg0 (by have := hF b hb; subst hbg; simp only [List.mem_append]; grind))) hr)
          rw [hx']
          simpa using this
        · simp only [List.length_append] at hlD hln hl2 ⊢
          omega
      · simp only [Path.at, List.map_cons, St.map, adr, hw]
        rw [show d1 ++ c1 ++ (cn ++ (c2 ++ (d2 ++ R))) = d1 ++ ((c1 ++ (cn ++ c2)) ++ (d2 ++ R)) by simp, drop_len _ _ hl1, take_len _ _ hln]
        have := this.2 (some (g, i e * a.size))
        simp only [Path.at] at this
        rw [this]
        simp [hl1]
  · have hgb : b ≠ g := fun hbg => hg0 (by subst hbg; simp only [List.mem_append]; grind)
    refine ⟨b, c1, c2, T', by simp [hg], fun loc => ?_, hh', fun w' Sh' mn mr Fn y' cn hK hs hw hm hr => ?_⟩
    · rw [hadr, ha]
    · obtain ⟨hm1, rfl⟩ := hm
      have hg1 : b ∉ F1 := fun hb => (List.nodup_append.1 hnd).2.2 _ hb _ (List.mem_append_left _ (List.mem_append_left _ hg)) rfl
      have hg2 : b ∉ F2 := fun hb => (List.nodup_append.1 (List.nodup_append.1 hnd).2.1).2.2 _ (List.mem_append_left _ hg) _ hb rfl
      have := hb w' Sh' mn m Fn y' cn hK (fun b hb => hs b (by simp only [List.mem_append, List.mem_cons] at hb ⊢; grind)) hw hm1 hr
      have hwg : w'.heap[g]? = some (.cells C T (0, 0)) := (hs g (by simp) (Ne.symm hgb)).trans hh
      refine ⟨.inr ⟨g, cap, C, F1 ++ ((Fa ++ (Fn ++ Fb)) ++ F2), by simp, by simp, hwg, hC, by simpa using hcap, ?_⟩, fun loc => ?_⟩
      · simp only [List.length_set]
        rw [hD]
        have := RzL.put hi (h1.imp fun F' x c hF hr => Rz_keep hK a _ _ _ _ (fun b hb => hs b (by have := hF b hb; simp only [List.mem_append, List.mem_cons]; grind) (fun hbg => hg1 (hbg ▸ hF _ hb))) hr) this.1 (h3.imp fun F' x c hF hr => Rz_keep hK a _ _ _ _ (fun b hb => hs b (by have := hF b hb; simp only [List.mem_append, List.mem_cons]; grind) (fun hbg => hg2 (hbg ▸ hF _ hb))) hr)
        rw [hx']
        simpa using this
      · simp only [Path.at, List.map_cons, St.map, adr, hwg]
        rw [hCD, List.append_assoc, drop_len _ _ hl1, List.append_assoc, take_len _ _ hl2]
        exact this.2 _
theorem adr_win {w : World} {T : TypeId} {a : Kt} {loc : Option (Nat × Nat)} {A : Option Addr} {j n cap cap' : Nat} {i : Nat} {p : List (St Nat)} :
    adr w (.win (.sl T a)) loc [.slice A j cap'] (.ix i :: p) = adr w (.sl T a) loc [.slice A n cap] (.ix i :: p) := by
  rcases A with _ | ⟨g, o, s⟩
  · simp [adr]
  · cases o <;> cases s <;> simp [adr]
/-- **THE HOLE**: a part at a path, and the whole behind a change of it. -/
theorem hole {E : Type} (e : E) {p : Path E} {k : Kt} {m : Mk} {L : Lens E k} (hL : LensIs k m p L) : ∀ {w : World} {Sh : Nat → Prop} {F : List Nat} {x : k.T} {cs : List Value},
    L.ok e x = true → F.Nodup → Rz w Sh k m F x cs → Hole w Sh k m F cs (p.at e) L.k' L.m' (L.get e x) (L.put e x) := by
  induction hL with
  | nil k m =>
    intro w Sh F x cs _ _ h
    refine ⟨[], F, [], cs, by simp, h, .inl ⟨[], [], by simp, fun loc => (adr_nil _ _ _ _).trans (add0 loc).symm, fun w' Sh' mn mr Fn y' cn hK hs hm hr => ?_⟩⟩
    simp only [Path.at, List.map_nil, MSet] at hm
    subst hm
    exact ⟨by simpa using hr, fun loc => (adr_nil _ _ _ _).trans (add0 loc).symm⟩
  | @l a b m p L hL ih =>
    intro w Sh F x cs hok hnd h
    obtain ⟨F1, F2, d1, d2, rfl, rfl, h1, h2⟩ := h
    have hl1 := Rz_len _ _ _ _ _ _ _ h1
    obtain ⟨Fa, Fo, Fb, c, rfl, hc, H⟩ := ih hok (hnd.sublist (List.sublist_append_left _ _)) h1
    refine ⟨Fa, Fo, Fb ++ F2, c, by simp, hc, H.imp ?_ ?_⟩
    · rintro ⟨c1, c2, rfl, ha, hb⟩
      refine ⟨c1, c2 ++ d2, by simp, fun loc => ?_, fun w' Sh' mn mr Fn y' cn hK hs hm hr => ?_⟩
      · show adr w a loc ((c1 ++ (c ++ c2) ++ d2).take a.size) (p.at e) = _
        rw [take_len _ _ hl1, ha]
      · obtain ⟨hm1, hm2⟩ := hm
        have := hb w' Sh' mn mr.l Fn y' cn hK (fun b hb => hs b (by simp only [List.mem_append] at hb ⊢; grind)) hm1 hr
        refine ⟨⟨Fa ++ (Fn ++ Fb), F2, c1 ++ (cn ++ c2), d2, by simp, by simp, this.1, ?_⟩, fun loc => ?_⟩
        · rw [hm2]
          exact Rz_keep hK _ _ _ _ _ (fun b hb => hs b (by simp only [List.mem_append]; grind)) h2
        · show adr w' a loc ((c1 ++ (cn ++ (c2 ++ d2))).take a.size) (p.at e) = _
          rw [show c1 ++ (cn ++ (c2 ++ d2)) = (c1 ++ (cn ++ c2)) ++ d2 by simp, take_len _ _ (Rz_len _ _ _ _ _ _ _ this.1), this.2]
    · rintro ⟨g, c1, c2, T, hg, ha, hh, hb⟩
      refine ⟨g, c1, c2, T, hg, fun loc => ?_, hh, fun w' Sh' mn mr Fn y' cn hK hs hw hm hr => ?_⟩
      · show adr w a loc ((d1 ++ d2).take a.size) (p.at e) = _
        rw [take_len _ _ hl1, ha]
      · obtain ⟨hm1, hm2⟩ := hm
        have := hb w' Sh' mn mr.l Fn y' cn hK (fun b hb => hs b (by simp only [List.mem_append] at hb ⊢; grind)) hw hm1 hr
        refine ⟨⟨Fa ++ (Fn ++ Fb), F2, d1, d2, by simp, rfl, this.1, ?_⟩, fun loc => ?_⟩
        · rw [hm2]
          exact Rz_keep hK _ _ _ _ _ (fun b hb => hs b (by simp only [List.mem_append]; grind) fun hbg => (List.nodup_append.1 hnd).2.2 _ (List.mem_append_left _ hg) _ hb hbg.symm) h2
        · show adr w' a loc ((d1 ++ d2).take a.size) (p.at e) = _
          rw [take_len _ _ hl1, this.2]
  | @r a b m p L hL ih =>
    intro w Sh F x cs hok hnd h
    obtain ⟨F1, F2, d1, d2, rfl, rfl, h1, h2⟩ := h
    have hl1 := Rz_len _ _ _ _ _ _ _ h1
    obtain ⟨Fa, Fo, Fb, c, rfl, hc, H⟩ := ih hok (hnd.sublist (List.sublist_append_right _ _)) h2
    refine ⟨F1 ++ Fa, Fo, Fb, c, by simp, hc, H.imp ?_ ?_⟩
    · rintro ⟨c1, c2, rfl, ha, hb⟩
      refine ⟨d1 ++ c1, c2, by simp, fun loc => ?_, fun w' Sh' mn mr Fn y' cn hK hs hm hr => ?_⟩
      · show adr w b (loc.map fun q => (q.1, q.2 + a.size)) ((d1 ++ (c1 ++ (c ++ c2))).drop a.size) (p.at e) = _
        rw [drop_len _ _ hl1, ha]
        cases loc <;> simp [hl1, Nat.add_assoc]
      · obtain ⟨hm1, hm2⟩ := hm
        have := hb w' Sh' mn mr.r Fn y' cn hK (fun b hb => hs b (by simp only [List.mem_append] at hb ⊢; grind)) hm1 hr
        refine ⟨⟨F1, Fa ++ (Fn ++ Fb), d1, c1 ++ (cn ++ c2), by simp, by simp, ?_, this.1⟩, fun loc => ?_⟩
        · rw [hm2]
          exact Rz_keep hK _ _ _ _ _ (fun b hb => hs b (by simp only [List.mem_append]; grind)) h1
        · show adr w' b (loc.map fun q => (q.1, q.2 + a.size)) (((d1 ++ c1) ++ (cn ++ c2)).drop a.size) (p.at e) = _
          rw [List.append_assoc, drop_len _ _ hl1, this.2]
          cases loc <;> simp [hl1, Nat.add_assoc]
    · rintro ⟨g, c1, c2, T, hg, ha, hh, hb⟩
      refine ⟨g, c1, c2, T, List.mem_append_right _ hg, fun loc => ?_, hh, fun w' Sh' mn mr Fn y' cn hK hs hw hm hr => ?_⟩
      · show adr w b _ ((d1 ++ d2).drop a.size) (p.at e) = _
        rw [drop_len _ _ hl1, ha]
      · obtain ⟨hm1, hm2⟩ := hm
        have := hb w' Sh' mn mr.r Fn y' cn hK (fun b hb => hs b (by simp only [List.mem_append] at hb ⊢; grind)) hw hm1 hr
        refine ⟨⟨F1, Fa ++ (Fn ++ Fb), d1, d2, by simp, rfl, ?_, this.1⟩, fun loc => ?_⟩
        · rw [hm2]
          exact Rz_keep hK _ _ _ _ _ (fun b hb => hs b (by simp only [List.mem_append]; grind) fun hbg => (List.nodup_append.1 hnd).2.2 _ hb _ (List.mem_append_left _ hg) hbg) h1
        · show adr w' b _ ((d1 ++ d2).drop a.size) (p.at e) = _
          rw [drop_len _ _ hl1, this.2]
  | @arr n a m i p L hL ih =>
    intro w Sh F x cs hok hnd h
    obtain ⟨hn, hx⟩ := h
    simp only [Bool.and_eq_true, decide_eq_true_eq] at hok
    obtain ⟨hi, hok⟩ := hok
    obtain ⟨F1, Fi, F2, d1, d, d2, rfl, rfl, h1, h2, h3⟩ := hx.get hi
    have hx' : x.getD (i e) a.dflt = x[i e] := by simp [hi]
    rw [hx'] at hok
    have hl1 := h1.len (Rz_len _ _ _ _)
    rw [List.length_take, Nat.min_eq_left (by omega)] at hl1
    have hl2 := Rz_len _ _ _ _ _ _ _ h2
    have hndi : Fi.Nodup := (hnd.sublist (List.sublist_append_right _ _)).sublist (List.sublist_append_left _ _)
    obtain ⟨Fa, Fo, Fb, c, rfl, hc, H⟩ := ih hok hndi h2
    refine ⟨F1 ++ Fa, Fo, Fb ++ F2, c, by simp, by (show Rz w Sh L.k' L.m' Fo (L.get e (x.getD (i e) a.dflt)) c); rw [hx']; exact hc, H.imp ?_ ?_⟩
    · rintro ⟨c1, c2, rfl, ha, hb⟩
      refine ⟨d1 ++ c1, c2 ++ d2, by simp, fun loc => ?_, fun w' Sh' mn mr Fn y' cn hK hs hm hr => ?_⟩
      · show adr w a (loc.map fun q => (q.1, q.2 + i e * a.size)) (((d1 ++ ((c1 ++ (c ++ c2)) ++ d2)).drop (i e * a.size)).take a.size) (p.at e) = _
        rw [drop_len _ _ hl1, take_len _ _ hl2, ha]
        cases loc <;> simp [hl1, Nat.add_assoc]
      · obtain ⟨hm1, hm2⟩ := hm
        have := hb w' Sh' mn m.e Fn y' cn hK (fun b hb => hs b (by simp only [List.mem_append] at hb ⊢; grind)) hm1 hr
        refine ⟨⟨by simpa using hn, ?_⟩, fun loc => ?_⟩
        · rw [hm2]
          have := RzL.put hi (h1.imp fun F' x c hF hr => Rz_keep hK a _ _ _ _ (fun b hb => hs b (by have := hF b hb; simp only [List.mem_append]; grind)) hr) this.1 (h3.imp fun F' x c hF hr => Rz_keep hK a _ _ _ _ (fun b hb => hs b (by have := hF b hb; simp only [List.mem_append]; grind)) hr)
          simp only [List.append_assoc] at this ⊢
          rw [hx']
          exact this
        · show adr w' a (loc.map fun q => (q.1, q.2 + i e * a.size)) ((((d1 ++ c1) ++ (cn ++ (c2 ++ d2))).drop (i e * a.size)).take a.size) (p.at e) = _
          rw [show (d1 ++ c1) ++ (cn ++ (c2 ++ d2)) = d1 ++ ((c1 ++ (cn ++ c2)) ++ d2) by simp, drop_len _ _ hl1, take_len _ _ (Rz_len _ _ _ _ _ _ _ this.1), this.2]
          cases loc <;> simp [hl1, Nat.add_assoc]
    · rintro ⟨g, c1, c2, T, hg, ha, hh, hb⟩
      refine ⟨g, c1, c2, T, List.mem_append_right _ hg, fun loc => ?_, hh, fun w' Sh' mn mr Fn y' cn hK hs hw hm hr => ?_⟩
      · show adr w a _ (((d1 ++ (d ++ d2)).drop (i e * a.size)).take a.size) (p.at e) = _
        rw [drop_len _ _ hl1, take_len _ _ hl2, ha]
      · obtain ⟨hm1, hm2⟩ := hm
        have hg1 : g ∉ F1 := fun hb => (List.nodup_append.1 hnd).2.2 _ hb _ (List.mem_append_left _ (List.mem_append_left _ hg)) rfl
        have hg2 : g ∉ F2 := fun hb => (List.nodup_append.1 (List.nodup_append.1 hnd).2.1).2.2 _ (List.mem_append_left _ hg) _ hb rfl
        have := hb w' Sh' mn m.e Fn y' cn hK (fun b hb => hs b (by simp only [List.mem_append] at hb ⊢; grind)) hw hm1 hr
        refine ⟨⟨by simpa using hn, ?_⟩, fun loc => ?_⟩
        · rw [hm2]
          have := RzL.put hi (h1.imp fun F' x c hF hr => Rz_keep hK a _ _ _ _ (fun b hb => hs b (by have := hF b hb; simp only [List.mem_append]; grind) (fun hbg => hg1 (hbg ▸ hF _ hb))) hr) this.1 (h3.imp fun F' x c hF hr => Rz_keep hK a _ _ _ _ (fun b hb => hs b (by have := hF b hb; simp only [List.mem_append]; grind) (fun hbg => hg2 (hbg ▸ hF _ hb))) hr)
          simp only [List.append_assoc] at this ⊢
          rw [hx']
          exact this
        · show adr w' a _ (((d1 ++ (d ++ d2)).drop (i e * a.size)).take a.size) (p.at e) = _
          rw [drop_len _ _ hl1, take_len _ _ hl2, this.2]
  | @sl T a m i p L hL ih =>
    intro w Sh F x cs hok hnd h
    obtain ⟨Fa, Fo, Fb, c, h1, h2, h3⟩ := hole_sl (T := T) (i := i) e ih hok hnd h
    exact ⟨Fa, Fo, Fb, c, h1, h2, .inr h3⟩
  | @ad T a m p L hL ih =>
    intro w Sh F x cs hok hnd h
    obtain ⟨g, C, Fe, rfl, rfl, hh, hx⟩ := h
    have hg0 := (List.nodup_cons.1 hnd).1
    have hnd := (List.nodup_cons.1 hnd).2
    have hadr : ∀ loc, adr w (.ptr T a) loc [.pointer (some ⟨g, 0, none⟩)] (Path.at (.ad :: p) e) = adr w a (some (g, 0)) C.toList (p.at e) := by
      intro loc
      simp only [Path.at, List.map_cons, St.map, adr, hh]
    obtain ⟨Fa, Fo, Fb, c, rfl, hc, H⟩ := ih hok hnd hx
    refine ⟨g :: Fa, Fo, Fb, c, by simp, hc, .inr ?_⟩
    rcases H with ⟨c1, c2, hd, ha, hb⟩ | ⟨b, c1, c2, T', hg, ha, hh', hb⟩
    · refine ⟨g, c1, c2, T, List.mem_cons_self .., fun loc => ?_, ?_, fun w' Sh' mn mr Fn y' cn hK hs hw hm hr => ?_⟩
      · rw [hadr, ha]
        simp
      · rw [hh]
        have : C = (c1 ++ (c ++ c2)).toArray := by
          apply Array.toList_inj.1
          rw [hd]
        rw [← this]
      · obtain ⟨m2, rfl, hm1⟩ := hm
        have := hb w' Sh' mn m2 Fn y' cn hK (fun b hb => hs b (by simp only [List.mem_append, List.mem_cons] at hb ⊢; grind) (fun hbg => hg0 (by subst hbg; simp only [List.mem_append] at hb ⊢; grind))) hm1 hr
        refine ⟨⟨g, _, Fa ++ (Fn ++ Fb), rfl, by simp, hw, by simpa using this.1⟩, fun loc => ?_⟩
        simp only [Path.at, List.map_cons, St.map, adr, hw]
        have := this.2 (some (g, 0))
        simp only [Path.at] at this
        simpa using this
    · have hgb : b ≠ g := fun hbg => hg0 (by subst hbg; simp only [List.mem_append]; grind)
      refine ⟨b, c1, c2, T', by simp [hg], fun loc => ?_, hh', fun w' Sh' mn mr Fn y' cn hK hs hw hm hr => ?_⟩
      · rw [hadr, ha]
      · obtain ⟨m2, rfl, hm1⟩ := hm
        have := hb w' Sh' mn m2 Fn y' cn hK (fun b hb => hs b (by simp only [List.mem_append, List.mem_cons] at hb ⊢; grind)) hw hm1 hr
        have hwg : w'.heap[g]? = some (.cells C T (0, 0)) := (hs g (by simp) (Ne.symm hgb)).trans hh
        refine ⟨⟨g, C, Fa ++ (Fn ++ Fb), rfl, by simp, hwg, this.1⟩, fun loc => ?_⟩
        simp only [Path.at, List.map_cons, St.map, adr, hwg]
        exact this.2 _
  | @win T a m i p L hL ih =>
    intro w Sh F x cs hok hnd h
    rw [Bool.and_eq_true] at hok
    obtain ⟨hok1, hok2⟩ := hok
    obtain ⟨_, A, n, cap, rfl, hn, h⟩ := h.resolve_left fun h => by cases h.1
    obtain ⟨Fa, Fo, Fb, c, h1, h2, b, c1, c2, T', h3, h4, h5, h6⟩ := hole_sl (T := T) (i := i) e ih hok2 hnd h
    refine ⟨Fa, Fo, Fb, c, h1, h2, .inr ⟨b, c1, c2, T', h3, fun loc => ?_, h5, fun w' Sh' mn mr Fn y' cn hK hs hw hm hr => ?_⟩⟩
    · have := h4 loc
      simp only [Path.at, List.map_cons, St.map] at this ⊢
      rw [adr_win (n := n) (cap := cap)]
      exact this
    · obtain ⟨i1, i2⟩ := h6 w' Sh' mn mr Fn y' cn hK hs hw hm hr
      refine ⟨.inr ⟨by rw [hm.2]; simp, A, n, cap, rfl, hn, i1⟩, fun loc => ?_⟩
      have := i2 loc
      simp only [Path.at, List.map_cons, St.map] at this ⊢
      rw [adr_win (n := n) (cap := cap)]
      exact this
  | @opt b a m p L hL ih =>
    intro w Sh F x cs hok hnd h
    rw [Bool.and_eq_true] at hok
    obtain ⟨hok1, hok2⟩ := hok
    rcases h with ⟨rfl, _⟩ | ⟨y, rfl, h⟩
    · cases hok1
    obtain ⟨Fa, Fo, Fb, c, hF, hc, H⟩ := ih hok2 hnd h
    refine ⟨Fa, Fo, Fb, c, hF, hc, H.imp ?_ ?_⟩
    · rintro ⟨c1, c2, h1, ha, hb⟩
      refine ⟨c1, c2, h1, ha, fun w' Sh' mn mr Fn y' cn hK hs hm hr => ?_⟩
      obtain ⟨i1, i2⟩ := hb w' Sh' mn mr Fn y' cn hK hs hm hr
      exact ⟨.inr ⟨_, rfl, i1⟩, i2⟩
    · rintro ⟨g, c1, c2, T, hg, ha, hh, hb⟩
      refine ⟨g, c1, c2, T, hg, ha, hh, fun w' Sh' mn mr Fn y' cn hK hs hw hm hr => ?_⟩
      obtain ⟨i1, i2⟩ := hb w' Sh' mn mr Fn y' cn hK hs hw hm hr
      exact ⟨.inr ⟨_, rfl, i1⟩, i2⟩
end Go.Lift

namespace Go.Lift
set_option linter.unusedVariables false
set_option linter.unusedSimpArgs false

/-! ### Paths that the mask lets through; paths that read no inner header -/
def vp : (k : Kt) → Mk → List (St Nat) → Bool
  | _, _, [] => true
  | .pair a _, m, .l :: p => vp a m.l p
  | .pair _ b, m, .r :: p => vp b m.r p
  | .arr _ e, m, .ix _ :: p => vp e m.e p
  | .sl _ e, .ow m, .ix _ :: p => vp e m p
  | .ptr _ e, .ow m, .ad :: p => vp e m p
  | .win (.sl _ e), .ow m, .ix _ :: p => vp e m p
  | .opt b a, m, .sm :: p => vp a m p
  | _, _, _ => false

/-- No header is read. -/
def flatp : (k : Kt) → List (St Nat) → Bool
  | _, [] => true
  | .pair a _, .l :: p => flatp a p
  | .pair _ b, .r :: p => flatp b p
  | .arr _ e, .ix _ :: p => flatp e p
  | .opt b a, .sm :: p => flatp a p
  | _, _ => false
def foff : (k : Kt) → List (St Nat) → Nat
  | _, [] => 0
  | .pair a _, .l :: p => foff a p
  | .pair a b, .r :: p => a.size + foff b p
  | .arr _ e, .ix i :: p => i * e.size + foff e p
  | .opt b a, .sm :: p => foff a p
  | _, _ => 0
/-- One header, the root's own one. -/
def shal : (k : Kt) → List (St Nat) → Bool
  | .sl _ e, .ix _ :: p => flatp e p
  | .ptr _ e, .ad :: p => flatp e p
  | .win (.sl _ e), .ix _ :: p => flatp e p
  | _, _ => false

theorem adr_flat (w : World) : ∀ (p : List (St Nat)) (k : Kt) (loc : Option (Nat × Nat)) (cs : List Value), flatp k p = true → adr w k loc cs p = loc.map fun q => (q.1, q.2 + foff k p)
  | [], k, loc, cs, h => by rw [adr_nil]; cases loc <;> cases k <;> simp [foff]
  | s :: p, k, loc, cs, h => by
    cases k <;> cases s <;> try (simp [flatp] at h; done)
    case pair.l a b => simp only [adr, foff]; exact adr_flat w p a _ _ h
    case pair.r a b => simp only [adr, foff]; rw [adr_flat w p b _ _ h]; cases loc <;> simp [Nat.add_assoc]
    case arr.ix n e i => simp only [adr, foff]; rw [adr_flat w p e _ _ h]; cases loc <;> simp [Nat.add_assoc]
    case opt.sm b a => simp only [adr, foff]; exact adr_flat w p a _ _ h

/-- A part of a root that lies right behind its header: where it lies does not hang on the blocks. -/
theorem adr_shal {w w' : World} {Sh : Nat → Prop} {k : Kt} {m : Mk} {F : List Nat} {x : k.T} {cs : List Value} {p : List (St Nat)} (hs : shal k p = true) (hv : vp k m p = true) (h : Rz w Sh k m F x cs)
    (hb : ∀ b ∈ F, ∀ C T f, w.heap[b]? = some (.cells C T f) → ∃ C', w'.heap[b]? = some (.cells C' T f)) : adr w' k none cs p = adr w k none cs p := by
  cases p with
  | nil => cases k <;> simp [shal] at hs
  | cons s p =>
    cases k <;> cases s <;> try (simp [shal] at hs; done)
    case sl.ix T e i =>
      cases m <;> try (simp [vp] at hv; done)
      rcases h with ⟨_, _, rfl⟩ | ⟨g, cap, C, Fe, rfl, rfl, hh, _⟩
      · simp [adr]
      · obtain ⟨C', hh'⟩ := hb g (List.mem_cons_self ..) _ _ _ hh
        simp only [adr, hh, hh']
        rw [adr_flat _ _ _ _ _ hs, adr_flat _ _ _ _ _ hs]
    case ptr.ad T e =>
      cases m <;> try (simp [vp] at hv; done)
      obtain ⟨g, C, Fe, rfl, rfl, hh, _⟩ := h
      obtain ⟨C', hh'⟩ := hb g (List.mem_cons_self ..) _ _ _ hh
      simp only [adr, hh, hh']
      rw [adr_flat _ _ _ _ _ hs, adr_flat _ _ _ _ _ hs]
    case win.ix s i =>
      cases s <;> try (simp [shal] at hs; done)
      cases m <;> try (simp [vp] at hv; done)
      obtain ⟨_, A, n, cap', rfl, hn, hz⟩ := h.resolve_left fun h => by cases h.1
      rcases hz with ⟨_, _, hc⟩ | ⟨g, cap, C, Fe, hc, rfl, hh, _⟩
      · obtain ⟨rfl, _⟩ := Value.slice.inj (List.cons.inj hc).1
        simp [adr]
      · obtain ⟨rfl, _⟩ := Value.slice.inj (List.cons.inj hc).1
        obtain ⟨C', hh'⟩ := hb g (List.mem_cons_self ..) _ _ _ hh
        simp only [adr, hh, hh']
        rw [adr_flat _ _ _ _ _ hs, adr_flat _ _ _ _ _ hs]

theorem RzL.at_ {α : Type} {R : List Nat → α → List Value → Prop} {F : List Nat} {xs : List α} {cs : List Value} {n : Nat} (h : RzL R F xs cs) (hn : ∀ F x c, R F x c → c.length = n) {i : Nat} (hi : i < xs.length) :
    ∃ F' x, (∀ b ∈ F', b ∈ F) ∧ R F' x ((cs.drop (i * n)).take n) := by
  obtain ⟨F1, Fo, F2, c1, c, c2, rfl, rfl, h1, h2, h3⟩ := h.get hi
  have hl1 := h1.len hn
  rw [List.length_take, Nat.min_eq_left (by omega)] at hl1
  rw [drop_len _ _ hl1, take_len _ _ (hn _ _ _ h2)]
  exact ⟨Fo, _, fun b hb => by simp only [List.mem_append]; grind, h2⟩

/-- A path that leads somewhere: the mask lets it through, the places are there. -/
def gok : (k : Kt) → Mk → k.T → List (St Nat) → Bool
  | _, _, _, [] => true
  | .pair a _, m, x, .l :: p => gok a m.l x.1 p
  | .pair _ b, m, x, .r :: p => gok b m.r x.2 p
  | .arr _ e, m, x, .ix i :: p => decide (i < x.length) && gok e m.e (x.getD i e.dflt) p
  | .sl _ e, .ow m, x, .ix i :: p => decide (i < x.length) && gok e m (x.getD i e.dflt) p
  | .ptr _ e, .ow m, x, .ad :: p => gok e m x p
  | .win (.sl _ e), .ow m, x, .ix i :: p => decide (i < x.2) && (decide (i < x.1.length) && gok e m (x.1.getD i e.dflt) p)
  | .opt b a, m, x, .sm :: p => x.isSome && gok a m (x.getD a.dflt) p
  | _, _, _, _ => false

theorem gok_lens {E : Type} (e : E) {p : Path E} {k : Kt} {m : Mk} {L : Lens E k} (h : LensIs k m p L) : ∀ x : k.T, L.ok e x = gok k m x (p.at e) := by
  induction h with
  | nil k m => intro x; cases k <;> simp [Path.at, gok]
  | l h ih => intro x; simp only [Path.at, List.map_cons, St.map, gok]; exact ih x.1
  | r h ih => intro x; simp only [Path.at, List.map_cons, St.map, gok]; exact ih x.2
  | arr h ih => intro x; simp only [Path.at, List.map_cons, St.map, gok]; rw [ih]; rfl
  | sl h ih => intro x; simp only [Path.at, List.map_cons, St.map, gok]; rw [ih]; rfl
  | ad h ih => intro x; simp only [Path.at, List.map_cons, St.map, gok]; exact ih x
  | win h ih => intro x; simp only [Path.at, List.map_cons, St.map, gok]; rw [ih]; rfl
  | opt h ih => intro x; simp only [Path.at, List.map_cons, St.map, gok]; rw [ih]; rfl

/-- Where a part lies hangs on the owned blocks alone. -/
theorem adr_keep {w w' : World} {Sh : Nat → Prop} : ∀ (p : List (St Nat)) (k : Kt) (m : Mk) (F : List Nat) (x : k.T) (cs : List Value) (loc : Option (Nat × Nat)), gok k m x p = true → Rz w Sh k m F x cs → (∀ b ∈ F, w'.heap[b]? = w.heap[b]?) →
    adr w' k loc cs p = adr w k loc cs p
  | [], k, m, F, x, cs, loc, _, _, _ => by rw [adr_nil, adr_nil]
  | s :: p, k, m, F, x, cs, loc, hg, h, hb => by
    cases k <;> cases s <;> try (simp [gok] at hg; done)
    case pair.l a b =>
      obtain ⟨F1, F2, c1, c2, rfl, rfl, h1, h2⟩ := h
      simp only [adr]
      rw [take_len _ _ (Rz_len _ _ _ _ _ _ _ h1)]
      exact adr_keep p a m.l F1 x.1 c1 _ hg h1 fun b hb' => hb b (List.mem_append_left _ hb')
    case pair.r a b =>
      obtain ⟨F1, F2, c1, c2, rfl, rfl, h1, h2⟩ := h
      simp only [adr]
      rw [drop_len _ _ (Rz_len _ _ _ _ _ _ _ h1)]
      exact adr_keep p b m.r F2 x.2 c2 _ hg h2 fun b hb' => hb b (List.mem_append_right _ hb')
    case arr.ix n e i =>
      simp only [gok, Bool.and_eq_true, decide_eq_true_eq] at hg
      obtain ⟨F1, Fo, F2, c1, c, c2, rfl, rfl, h1, h2, h3⟩ := h.2.get hg.1
      have hl1 := h1.len (Rz_len _ _ _ _)
      rw [List.length_take, Nat.min_eq_left (by omega)] at hl1
      simp only [adr]
      rw [drop_len _ _ hl1, take_len _ _ (Rz_len _ _ _ _ _ _ _ h2)]
      have hx : x.getD i e.dflt = x[i] := by simp [hg.1]
      exact adr_keep p e m.e Fo _ c _ (hx ▸ hg.2) h2 fun b hb' => hb b (by simp only [List.mem_append]; grind)
    case sl.ix T e i =>
      cases m <;> try (simp [gok] at hg; done)
      simp only [gok, Bool.and_eq_true, decide_eq_true_eq] at hg
      rcases h with ⟨_, _, rfl⟩ | ⟨g, cap, C, Fe, rfl, rfl, hh, hC, hl, hx⟩
      · simp [adr]
      · generalize hD : C.toList.take (List.length x * e.size) = D at hx
        generalize hR : C.toList.drop (List.length x * e.size) = R
        have hCD : C.toList = D ++ R := by rw [← hD, ← hR, List.take_append_drop]
        obtain ⟨F1, Fo, F2, c1, c, c2, rfl, rfl, h1, h2, h3⟩ := hx.get hg.1
        have hl1 := h1.len (Rz_len _ _ _ _)
        rw [List.length_take, Nat.min_eq_left (by omega)] at hl1
        have hh' : w'.heap[g]? = some (.cells C T (0, 0)) := (hb g (List.mem_cons_self ..)).trans hh
        simp only [adr, hh, hh']
        rw [hCD, List.append_assoc, drop_len _ _ hl1, List.append_assoc, take_len _ _ (Rz_len _ _ _ _ _ _ _ h2)]
        have hxi : x.getD i e.dflt = x[i] := by simp [hg.1]
        exact adr_keep p e _ Fo _ c _ (hxi ▸ hg.2) h2 fun b hb' => hb b (by simp only [List.mem_append, List.mem_cons]; grind)
    case ptr.ad T e =>
      cases m <;> try (simp [gok] at hg; done)
      obtain ⟨g, C, Fe, rfl, rfl, hh, hx⟩ := h
      have hh' : w'.heap[g]? = some (.cells C T (0, 0)) := (hb g (List.mem_cons_self ..)).trans hh
      simp only [adr, hh, hh']
      exact adr_keep p e _ Fe _ _ _ hg hx fun b hb' => hb b (List.mem_cons_of_mem _ hb')
    case win.ix s i =>
      cases s <;> try (simp [gok] at hg; done)
      rename_i T e
      cases m <;> try (simp [gok] at hg; done)
      simp only [gok, Bool.and_eq_true, decide_eq_true_eq] at hg
      obtain ⟨_, hg⟩ := hg
      obtain ⟨_, A, n, cap', rfl, hn, hz⟩ := h.resolve_left fun h => by cases h.1
      rcases hz with ⟨_, _, hc⟩ | ⟨g, cap, C, Fe, hc, rfl, hh, hC, hl, hx⟩
      · obtain ⟨rfl, _⟩ := Value.slice.inj (List.cons.inj hc).1
        simp [adr]
      · obtain ⟨rfl, _⟩ := Value.slice.inj (List.cons.inj hc).1
        generalize hD : C.toList.take (List.length x.1 * e.size) = D at hx
        generalize hR : C.toList.drop (List.length x.1 * e.size) = R
        have hCD : C.toList = D ++ R := by rw [← hD, ← hR, List.take_append_drop]
        obtain ⟨F1, Fo, F2, c1, c, c2, rfl, rfl, h1, h2, h3⟩ := hx.get hg.1
        have hl1 := h1.len (Rz_len _ _ _ _)
        rw [List.length_take, Nat.min_eq_left (by omega)] at hl1
        have hh' : w'.heap[g]? = some (.cells C T (0, 0)) := (hb g (List.mem_cons_self ..)).trans hh
        simp only [adr, hh, hh']
        rw [hCD, List.append_assoc, drop_len _ _ hl1, List.append_assoc, take_len _ _ (Rz_len _ _ _ _ _ _ _ h2)]
        have hxi : x.1.getD i e.dflt = x.1[i] := by simp [hg.1]
        exact adr_keep p e _ Fo _ c _ (hxi ▸ hg.2) h2 fun b hb' => hb b (by simp only [List.mem_append, List.mem_cons]; grind)
    case opt.sm b a =>
      simp only [gok, Bool.and_eq_true] at hg
      rcases h with ⟨rfl, _⟩ | ⟨y, rfl, h⟩
      · cases hg.1
      · simp only [adr]
        exact adr_keep p a m F y cs loc hg.2 h hb

/-! ### What the slots hold -/
inductive GEnt where
  | val (k : Kt) (x : k.T)
  | own (r : Nat)
  | loc (r hv : Nat) (p : List (St Nat))
  | sub (r hv : Nat) (p : List (St Nat))
  | view (r hv : Nat) (k : Kt) (p : List (St Nat))
  | place (k : Kt) (x : k.T)
  | cst (v : Value)
  | atl (x : Int)
structure GRoot where
  k : Kt
  m : Mk
  hv : Nat
  x : k.T
/-- A root: given up, or there. -/
abbrev GR := Option GRoot
structure G where
  tm : Nat × Nat → Option GEnt
  rt : Nat → Option GR

/-- A step of the world as it is seen from outside: but for the blocks of F nothing that was there has changed. -/
structure Fr (w w' : World) (F : Nat → Prop) : Prop where
  os : w'.os = w.os
  tape : w'.tape = w.tape
  output : w'.output = w.output
  size : w.heap.size ≤ w'.heap.size
  frame : ∀ b, b < w.heap.size → ¬ F b → w'.heap[b]? = w.heap[b]?

/-- The call: the world and what may be read when it began, and what it may write; Gl: what is so of the world whatever it does. -/
structure Cx where
  w0 : World
  S0 : Nat → Prop
  M : Nat → Prop
  nt : Nat × Nat
  args : List Value
  Gl : World → Prop
  gl : ∀ w', Fr w0 w' M → Gl w'

/-- The slots: so many, and the parameters stand. -/
def Cx.A (cx : Cx) (a : Act) : Prop := cx.nt.2 ≤ a.tmps.size ∧ ∀ i v, i < cx.nt.1 → cx.args[i]? = some v → a.tmps[i]? = some v
/-- A slot that may be written. -/
def Cx.T (cx : Cx) (t : Nat) : Prop := cx.nt.1 ≤ t ∧ t < cx.nt.2
theorem Cx.A.put {cx : Cx} {a : Act} (h : cx.A a) {d : Option Tmp} (hd : ∀ t, d = some t → cx.T t) (v : Value) : cx.A (a.put d v) := by
  cases d with
  | none => exact h
  | some t =>
    have ht := hd t rfl
    refine ⟨by simpa [Act.put] using h.1, fun i u hi hu => ?_⟩
    have := h.2 i u hi hu
    have hne : t ≠ i := fun e => absurd hi (Nat.not_lt.2 (e ▸ ht.1))
    simp only [Act.put]
    rw [Array.getElem?_setIfInBounds_ne hne]
    exact this
def Cx.Sh (cx : Cx) (Fp : Nat → List Nat) (b : Nat) : Prop := (cx.S0 b ∨ cx.M b ∨ cx.w0.heap.size ≤ b) ∧ ∀ r, b ∉ Fp r

/-- The cells of a value of a kind. -/
def hdr (k : Kt) (v : Value) : List Value := if k.isAgg = true then v.cells.toList else [v]

structure Mem (cx : Cx) (rt : Nat → Option GR) (V : Nat → Value) (Fp : Nat → List Nat) (w : World) : Prop where
  os : w.os = cx.w0.os
  tape : w.tape = cx.w0.tape
  output : w.output = cx.w0.output
  size : cx.w0.heap.size ≤ w.heap.size
  frame : ∀ b, b < cx.w0.heap.size → ¬ cx.M b → w.heap[b]? = cx.w0.heap[b]?
  roots : ∀ r R, rt r = some (some R) → ∃ cs, Shows R.k (V r) cs ∧ Rz w (cx.Sh Fp) R.k R.m (Fp r) R.x cs
  none : ∀ r, (∀ R, rt r ≠ some (some R)) → Fp r = []
  nodup : ∀ r, (Fp r).Nodup
  disj : ∀ r r', r ≠ r' → ∀ b, b ∈ Fp r → b ∉ Fp r'
  own : ∀ r b, b ∈ Fp r → cx.M b ∨ cx.w0.heap.size ≤ b

def ESat (cx : Cx) (rt : Nat → Option GR) (V : Nat → Value) (Fp : Nat → List Nat) (w : World) : GEnt → Value → Prop
  | .val k x, v => ∃ cs, Shows k v cs ∧ Rz w (cx.Sh Fp) k .sh [] x cs
  | .own r, v => ∃ R, rt r = some R ∧ (R ≠ none → v = V r)
  | .loc r hv p, v => ∃ R, rt r = some R ∧ ∀ R', R = some R' → hv ≤ R'.hv ∧ (((shal R'.k p = true ∧ ∃ m1, R'.m = .ow m1) ∨ (R'.hv = hv ∧ gok R'.k R'.m R'.x p = true)) →
      ∃ b o, v = .pointer (some ⟨b, o, none⟩) ∧ adr w R'.k none (hdr R'.k (V r)) p = some (b, o))
  | .sub r hv p, v => ∃ R, rt r = some R ∧ ∀ R', R = some R' → hv ≤ R'.hv ∧ (R'.hv = hv → gok R'.k R'.m R'.x p = true →
      ∃ b o, b ∈ Fp r ∧ adr w R'.k none (hdr R'.k (V r)) p = some (b, o) ∧ w.cell? ⟨b, o, none⟩ = some v)
  | .view r hv k p, v => ∃ R, rt r = some R ∧ ∀ R', R = some R' → hv ≤ R'.hv ∧ (R'.hv = hv → gok R'.k R'.m R'.x p = true →
      ∃ b o cs, b ∈ Fp r ∧ adr w R'.k none (hdr R'.k (V r)) p = some (b, o) ∧ CellsAt w b o cs ∧ Shows k v cs ∧ cs.length = k.size)
  | .place k x, v => ∃ b o cc, v = .pointer (some ⟨b, o, none⟩) ∧ cx.Sh Fp b ∧ b < w.heap.size ∧ Rz w (cx.Sh Fp) k .sh [] x cc ∧ CellsAt w b o cc
  | .cst c, v => v = c
  | .atl x, v => ∃ n : Int, v = .int .i64 n ∧ x ≤ n

/-- A part of a slot's value: (t, 0) the value itself, (t, i + 1) its part number i. -/
def part (v : Value) : Nat → Option Value
  | 0 => some v
  | i + 1 => match v with
    | .tuple vs => vs[i]?
    | _ => none

structure GSat (cx : Cx) (g : G) (a : Act) (w : World) : Prop where
  defers : a.defers = []
  size : cx.A a
  sat : ∃ V Fp, Mem cx g.rt V Fp w ∧ ∀ t i ent, g.tm (t, i) = some ent → ∃ v u, a.tmps[t]? = some v ∧ part v i = some u ∧ ESat cx g.rt V Fp w ent u


def RKeep (V V' : Nat → Value) (Fp Fp' : Nat → List Nat) (w w' : World) (r : Nat) : Option GR → Option GR → Prop
  | none, _ => True
  | some none, q => q = some none
  | some (some R), q => q = some none ∨ ∃ m' hv' x', q = some (some ⟨R.k, m', hv', x'⟩) ∧ V' r = V r ∧
      ((hv' = R.hv ∧ m' = R.m ∧ x' = R.x ∧ (∀ b ∈ Fp r, b ∈ Fp' r) ∧ ∀ b ∈ Fp r, w'.heap[b]? = w.heap[b]?) ∨
       (R.hv < hv' ∧ (∀ p, shal R.k p = true → ∃ m1, R.m = .ow m1) ∧ ∀ p, shal R.k p = true → adr w' R.k none (hdr R.k (V r)) p = adr w R.k none (hdr R.k (V r)) p))

theorem shows_hdr {k : Kt} {v : Value} {cs : List Value} (hs : Shows k v cs) : hdr k v = cs := by
  unfold Shows at hs
  unfold hdr
  split at hs
  · rename_i h; rw [if_pos h, hs]; rfl
  · rename_i h; rw [if_neg h, hs]

theorem shal_vp {k : Kt} {m : Mk} {p : List (St Nat)} (h : shal k p = true) : vp k (.ow m) p = true := by
  have flat : ∀ (p : List (St Nat)) (k : Kt) (m : Mk), flatp k p = true → vp k m p = true := by
    intro p
    induction p with
    | nil => intro k m _; cases k <;> simp [vp]
    | cons s p ih => intro k m h; cases k <;> cases s <;> first | (simp [flatp] at h; done) | (simp only [vp]; exact ih _ _ h)
  cases p with
  | nil => cases k <;> simp [shal] at h
  | cons s p =>
    cases k <;> cases s <;> first | (simp [shal] at h; done) | (simp only [vp]; exact flat _ _ _ h) | skip
    rename_i k i
    cases k <;> first | (simp [shal] at h; done) | (simp only [vp]; exact flat _ _ _ h)

theorem cell_block {w w' : World} {b o : Nat} (h : w'.heap[b]? = w.heap[b]?) : w'.cell? ⟨b, o, none⟩ = w.cell? ⟨b, o, none⟩ := by
  unfold World.cell?
  rw [h]

theorem ESat.keep {cx : Cx} {rt rt' : Nat → Option GR} {V V' : Nat → Value} {Fp Fp' : Nat → List Nat} {w w' : World} (hM : Mem cx rt V Fp w) (hK : Kp w (cx.Sh Fp) w' (cx.Sh Fp'))
    (hR : ∀ r, RKeep V V' Fp Fp' w w' r (rt r) (rt' r)) {ent : GEnt} {v : Value} (h : ESat cx rt V Fp w ent v) : ESat cx rt' V' Fp' w' ent v := by
  cases ent with
  | val k x =>
    obtain ⟨cs, h1, h2⟩ := h
    exact ⟨cs, h1, Rz_keep hK _ _ _ _ _ (by intro b hb; cases hb) h2⟩
  | own r =>
    obtain ⟨R, h1, h2⟩ := h
    have := hR r
    rw [h1] at this
    cases R with
    | none => exact ⟨none, this, fun h => absurd rfl h⟩
    | some R =>
      rcases this with h3 | ⟨m', hv', x', h3, h4, _⟩
      · exact ⟨none, h3, fun h => absurd rfl h⟩
      · exact ⟨_, h3, fun _ => (h2 (by simp)).trans h4.symm⟩
  | loc r hv p =>
    obtain ⟨R, h1, h2⟩ := h
    have := hR r
    rw [h1] at this
    cases R with
    | none => exact ⟨none, this, fun R' h => by cases h⟩
    | some R =>
      rcases this with h3 | ⟨m', hv', x', h3, h4, h5⟩
      · exact ⟨none, h3, fun R' h => by cases h⟩
      · refine ⟨_, h3, fun R' hR' => ?_⟩
        obtain rfl := Option.some.inj hR'
        obtain ⟨h6, h7⟩ := h2 R rfl
        obtain ⟨cs, hs, hz⟩ := hM.roots r R h1
        rcases h5 with ⟨rfl, rfl, rfl, hF, h8⟩ | ⟨h8, h9, h10⟩
        · refine ⟨h6, fun hc => ?_⟩
          obtain ⟨b, o, e1, e2⟩ := h7 hc
          refine ⟨b, o, e1, ?_⟩
          rw [h4, ← e2]
          rw [shows_hdr hs]
          rcases hc with ⟨hc, m1, hm⟩ | ⟨_, hc⟩
          · refine adr_shal hc ?_ hz fun b hb C T f hh => ⟨C, by rw [h8 b hb]; exact hh⟩
            rw [hm]; exact shal_vp hc
          · exact adr_keep _ _ _ _ _ _ _ hc hz h8
        · refine ⟨Nat.le_of_lt (Nat.lt_of_le_of_lt h6 h8), fun hc => ?_⟩
          rcases hc with ⟨hc, m1, hm⟩ | ⟨hc, _⟩
          · obtain ⟨b, o, e1, e2⟩ := h7 (.inl ⟨hc, h9 p hc⟩)
            refine ⟨b, o, e1, ?_⟩
            show adr w' R.k none (hdr R.k (V' r)) p = _
            rw [h4, ← e2]
            exact h10 p hc
          · have hc : hv' = hv := hc
            omega
  | sub r hv p =>
    obtain ⟨R, h1, h2⟩ := h
    have := hR r
    rw [h1] at this
    cases R with
    | none => exact ⟨none, this, fun R' h => by cases h⟩
    | some R =>
      rcases this with h3 | ⟨m', hv', x', h3, h4, h5⟩
      · exact ⟨none, h3, fun R' h => by cases h⟩
      · refine ⟨_, h3, fun R' hR' => ?_⟩
        obtain rfl := Option.some.inj hR'
        obtain ⟨h6, h7⟩ := h2 R rfl
        obtain ⟨cs, hs, hz⟩ := hM.roots r R h1
        rcases h5 with ⟨rfl, rfl, rfl, hF, h8⟩ | ⟨h8, h9, h10⟩
        · refine ⟨h6, fun hc hg => ?_⟩
          obtain ⟨b, o, hb, e1, e2⟩ := h7 hc hg
          refine ⟨b, o, hF b hb, ?_, ?_⟩
          · rw [h4, ← e1, shows_hdr hs]
            exact adr_keep _ _ _ _ _ _ _ hg hz h8
          · rw [cell_block (h8 b hb)]; exact e2
        · refine ⟨Nat.le_of_lt (Nat.lt_of_le_of_lt h6 h8), fun hc => ?_⟩
          have hc : hv' = hv := hc
          omega
  | view r hv k p =>
    obtain ⟨R, h1, h2⟩ := h
    have := hR r
    rw [h1] at this
    cases R with
    | none => exact ⟨none, this, fun R' h => by cases h⟩
    | some R =>
      rcases this with h3 | ⟨m', hv', x', h3, h4, h5⟩
      · exact ⟨none, h3, fun R' h => by cases h⟩
      · refine ⟨_, h3, fun R' hR' => ?_⟩
        obtain rfl := Option.some.inj hR'
        obtain ⟨h6, h7⟩ := h2 R rfl
        obtain ⟨cs, hs, hz⟩ := hM.roots r R h1
        rcases h5 with ⟨rfl, rfl, rfl, hF, h8⟩ | ⟨h8, h9, h10⟩
        · refine ⟨h6, fun hc hg => ?_⟩
          obtain ⟨b, o, cs', hb, e1, e2, e3⟩ := h7 hc hg
          refine ⟨b, o, cs', hF b hb, ?_, ?_, e3⟩
          · rw [h4, ← e1, shows_hdr hs]
            exact adr_keep _ _ _ _ _ _ _ hg hz h8
          · exact e2.keep (h8 b hb)
        · refine ⟨Nat.le_of_lt (Nat.lt_of_le_of_lt h6 h8), fun hc => ?_⟩
          have hc : hv' = hv := hc
          omega
  | place k x =>
    obtain ⟨b, o, cc, h1, h2, h3, h4, h5⟩ := h
    have := hK.sh b h2 h3
    exact ⟨b, o, cc, h1, this.2, Nat.lt_of_lt_of_le h3 hK.size, Rz_keep hK _ _ _ _ _ (by intro b hb; cases hb) h4, h5.keep this.1⟩
  | cst c => exact h
  | atl x => exact h

theorem Mem.lt {cx : Cx} {rt : Nat → Option GR} {V : Nat → Value} {Fp : Nat → List Nat} {w : World} (hM : Mem cx rt V Fp w) {r b : Nat} (hb : b ∈ Fp r) : b < w.heap.size := by
  by_cases h : ∃ R, rt r = some (some R)
  · obtain ⟨R, hR⟩ := h
    obtain ⟨cs, _, hz⟩ := hM.roots r R hR
    exact Rz_lt _ _ _ _ _ _ _ hz b hb
  · rw [hM.none r fun R hR => h ⟨R, hR⟩] at hb
    cases hb

/-- A step of the world: what is done to the roots of a set. -/
structure Step (cx : Cx) (rt rt' : Nat → Option GR) (V V' : Nat → Value) (Fp Fp' : Nat → List Nat) (w w' : World) (A : Nat → Prop) : Prop where
  os : w'.os = w.os
  tape : w'.tape = w.tape
  output : w'.output = w.output
  size : w.heap.size ≤ w'.heap.size
  frame : ∀ b, b < w.heap.size → (∀ s, A s → b ∉ Fp s) → w'.heap[b]? = w.heap[b]?
  un : ∀ r, ¬ A r → rt' r = rt r ∧ V' r = V r ∧ Fp' r = Fp r
  new : ∀ r, A r → ∀ b ∈ Fp' r, w.heap.size ≤ b ∨ ∃ s, A s ∧ b ∈ Fp s
  nodup : ∀ r, A r → (Fp' r).Nodup
  disj : ∀ r s, A r → A s → r ≠ s → ∀ b ∈ Fp' r, b ∉ Fp' s
  none : ∀ r, A r → (∀ R, rt' r ≠ some (some R)) → Fp' r = []
  rz : ∀ r R, A r → rt' r = some (some R) → Kp w (cx.Sh Fp) w' (cx.Sh Fp') → ∃ cs, Shows R.k (V' r) cs ∧ Rz w' (cx.Sh Fp') R.k R.m (Fp' r) R.x cs
  keep : ∀ r, A r → RKeep V V' Fp Fp' w w' r (rt r) (rt' r)

section
variable {cx : Cx} {rt rt' : Nat → Option GR} {V V' : Nat → Value} {Fp Fp' : Nat → List Nat} {w w' : World} {A : Nat → Prop}
theorem Step.kp (h : Step cx rt rt' V V' Fp Fp' w w' A) (hM : Mem cx rt V Fp w) : Kp w (cx.Sh Fp) w' (cx.Sh Fp') := by
  refine ⟨h.size, fun b hb hlt => ⟨h.frame b hlt fun s _ => hb.2 s, hb.1, fun r hr => ?_⟩⟩
  by_cases hA : A r
  · rcases h.new r hA b hr with h1 | ⟨s, _, h1⟩
    · omega
    · exact hb.2 s h1
  · rw [(h.un r hA).2.2] at hr
    exact hb.2 r hr
theorem Step.mem (h : Step cx rt rt' V V' Fp Fp' w w' A) (hM : Mem cx rt V Fp w) : Mem cx rt' V' Fp' w' := by
  have hK := h.kp hM
  have same : ∀ r, ¬ A r → ∀ b ∈ Fp r, w'.heap[b]? = w.heap[b]? := fun r hA b hb => h.frame b (hM.lt hb) fun s hs hb' => hM.disj r s (fun e => hA (e ▸ hs)) b hb hb'
  refine ⟨h.os.trans hM.os, h.tape.trans hM.tape, h.output.trans hM.output, Nat.le_trans hM.size h.size, fun b hb hm => ?_, fun r R hr => ?_, fun r hr => ?_, fun r => ?_, fun r s hrs b hb hb' => ?_, fun r b hb => ?_⟩
  · rw [h.frame b (Nat.lt_of_lt_of_le hb hM.size) fun s _ hs => (hM.own s b hs).elim hm (by omega)]
    exact hM.frame b hb hm
  · by_cases hA : A r
    · exact h.rz r R hA hr hK
    · obtain ⟨h1, h2, h3⟩ := h.un r hA
      rw [h1] at hr
      obtain ⟨cs, h4, h5⟩ := hM.roots r R hr
      rw [h2, h3]
      exact ⟨cs, h4, Rz_keep hK _ _ _ _ _ (same r hA) h5⟩
  · by_cases hA : A r
    · exact h.none r hA hr
    · obtain ⟨h1, h2, h3⟩ := h.un r hA
      rw [h3]
      exact hM.none r (by rw [← h1]; exact hr)
  · by_cases hA : A r
    · exact h.nodup r hA
    · rw [(h.un r hA).2.2]; exact hM.nodup r
  · by_cases hA : A r <;> by_cases hB : A s
    · exact h.disj r s hA hB hrs b hb hb'
    · rw [(h.un s hB).2.2] at hb'
      rcases h.new r hA b hb with h1 | ⟨s', hs', h1⟩
      · have := hM.lt hb'; omega
      · exact hM.disj s' s (fun e => hB (e ▸ hs')) b h1 hb'
    · rw [(h.un r hA).2.2] at hb
      rcases h.new s hB b hb' with h1 | ⟨s', hs', h1⟩
      · have := hM.lt hb; omega
      · exact hM.disj s' r (fun e => hA (e ▸ hs')) b h1 hb
    · rw [(h.un r hA).2.2] at hb
      rw [(h.un s hB).2.2] at hb'
      exact hM.disj r s hrs b hb hb'
  · by_cases hA : A r
    · rcases h.new r hA b hb with h1 | ⟨s', hs', h1⟩
      · exact .inr (Nat.le_trans hM.size h1)
      · exact hM.own s' b h1
    · rw [(h.un r hA).2.2] at hb
      exact hM.own r b hb
theorem Step.rkeep (h : Step cx rt rt' V V' Fp Fp' w w' A) (hM : Mem cx rt V Fp w) (r : Nat) : RKeep V V' Fp Fp' w w' r (rt r) (rt' r) := by
  by_cases hA : A r
  · exact h.keep r hA
  · obtain ⟨h1, h2, h3⟩ := h.un r hA
    rw [h1]
    cases hr : rt r with
    | none => trivial
    | some q =>
      cases q with
      | none => rfl
      | some R => exact .inr ⟨R.m, R.hv, R.x, rfl, h2, .inl ⟨rfl, rfl, rfl, fun b hb => by rw [h3]; exact hb, fun b hb => h.frame b (hM.lt hb) fun s hs hb' => hM.disj r s (fun e => hA (e ▸ hs)) b hb hb'⟩⟩
theorem Step.esat (h : Step cx rt rt' V V' Fp Fp' w w' A) (hM : Mem cx rt V Fp w) {ent : GEnt} {v : Value} (he : ESat cx rt V Fp w ent v) : ESat cx rt' V' Fp' w' ent v :=
  ESat.keep hM (h.kp hM) (h.rkeep hM) he
end

/-- Nothing happens (but draws). -/
theorem Step.id {cx : Cx} {rt : Nat → Option GR} {V : Nat → Value} {Fp : Nat → List Nat} {w w' : World} (hos : w'.os = w.os) (htape : w'.tape = w.tape) (hout : w'.output = w.output) (hh : w'.heap = w.heap) : Step cx rt rt V V Fp Fp w w' (fun _ => False) :=
  ⟨hos, htape, hout, by rw [hh]; exact Nat.le_refl _, fun b _ _ => by rw [hh], fun r _ => ⟨rfl, rfl, rfl⟩, fun _ h => h.elim, fun _ h => h.elim, fun _ _ h => h.elim, fun _ h => h.elim, fun _ _ h => h.elim, fun _ h => h.elim⟩

def G.put (g : G) (d : Option Tmp) (es : Nat → Option GEnt) (rt' : Nat → Option GR) : G := ⟨fun q => if some q.1 = d then es q.2 else g.tm q, rt'⟩

/-- **A step of a slot and the world.** -/
theorem step_pre {cx : Cx} {g : G} {a : Act} {w w' : World} {V V' : Nat → Value} {Fp Fp' : Nat → List Nat} {rt' : Nat → Option GR} {A : Nat → Prop} (hd : a.defers = []) (hs : cx.A a) (hM : Mem cx g.rt V Fp w)
    (hE : ∀ t i ent, g.tm (t, i) = some ent → ∃ v u, a.tmps[t]? = some v ∧ part v i = some u ∧ ESat cx g.rt V Fp w ent u)
    (h : Step cx g.rt rt' V V' Fp Fp' w w' A) {d : Option Tmp} (hlt : ∀ t, d = some t → cx.T t) {v : Value} {es : Nat → Option GEnt}
    (hnew : ∀ i ent, es i = some ent → ∃ u, part v i = some u ∧ ESat cx rt' V' Fp' w' ent u) : (a.put d v).defers = [] ∧ cx.A (a.put d v) ∧ Mem cx rt' V' Fp' w' ∧ ∀ t i ent, (g.put d es rt').tm (t, i) = some ent → ∃ v0 u, (a.put d v).tmps[t]? = some v0 ∧ part v0 i = some u ∧ ESat cx rt' V' Fp' w' ent u := by
  refine ⟨by cases d <;> simpa [Act.put] using hd, hs.put hlt v, h.mem hM, fun t i ent he => ?_⟩
  simp only [G.put] at he
  by_cases ht : some t = d
  · rw [if_pos ht] at he
    obtain ⟨u, hu, hu'⟩ := hnew i ent he
    have := hlt t ht.symm
    refine ⟨v, u, ?_, hu, hu'⟩
    subst ht
    simp only [Act.put]
    rw [Array.getElem?_setIfInBounds_self, if_pos (Nat.lt_of_lt_of_le this.2 hs.1)]
  · rw [if_neg ht] at he
    obtain ⟨v0, u, h1, h2, h3⟩ := hE t i ent he
    refine ⟨v0, u, ?_, h2, h.esat hM h3⟩
    cases d with
    | none => exact h1
    | some d =>
      simp only [Act.put]
      rw [Array.getElem?_setIfInBounds_ne (fun e => ht (by rw [e]))]
      exact h1
theorem GSat.step {cx : Cx} {g : G} {a : Act} {w w' : World} {V V' : Nat → Value} {Fp Fp' : Nat → List Nat} {rt' : Nat → Option GR} {A : Nat → Prop} (hd : a.defers = []) (hs : cx.A a) (hM : Mem cx g.rt V Fp w)
    (hE : ∀ t i ent, g.tm (t, i) = some ent → ∃ v u, a.tmps[t]? = some v ∧ part v i = some u ∧ ESat cx g.rt V Fp w ent u)
    (h : Step cx g.rt rt' V V' Fp Fp' w w' A) {d : Option Tmp} (hlt : ∀ t, d = some t → cx.T t) {v : Value} {es : Nat → Option GEnt}
    (hnew : ∀ i ent, es i = some ent → ∃ u, part v i = some u ∧ ESat cx rt' V' Fp' w' ent u) : GSat cx (g.put d es rt') (a.put d v) w' := by
  obtain ⟨h1, h2, h3, h4⟩ := step_pre hd hs hM hE h hlt hnew
  exact ⟨h1, h2, V', Fp', h3, h4⟩
end Go.Lift

namespace Go.Lift
set_option linter.unusedVariables false
set_option linter.unusedSimpArgs false

def upd {α : Type} (f : Nat → α) (r : Nat) (x : α) : Nat → α := fun s => if s = r then x else f s
theorem upd_same {α : Type} (f : Nat → α) (r : Nat) (x : α) : upd f r x r = x := by simp [upd]
theorem upd_ne {α : Type} (f : Nat → α) {r s : Nat} (x : α) (h : s ≠ r) : upd f r x s = f s := by simp [upd, h]

/-- A state, opened. -/
structure Pre (cx : Cx) (g : G) (a : Act) (w : World) (V : Nat → Value) (Fp : Nat → List Nat) : Prop where
  defers : a.defers = []
  size : cx.A a
  mem : Mem cx g.rt V Fp w
  ents : ∀ t i ent, g.tm (t, i) = some ent → ∃ v u, a.tmps[t]? = some v ∧ part v i = some u ∧ ESat cx g.rt V Fp w ent u

theorem GSat.pre {cx : Cx} {g : G} {a : Act} {w : World} (h : GSat cx g a w) : ∃ V Fp, Pre cx g a w V Fp := by
  obtain ⟨h1, h2, V, Fp, h3, h4⟩ := h
  exact ⟨V, Fp, h1, h2, h3, h4⟩

section
variable {P : Program} {cx : Cx} {g : G} {a : Act} {w : World} {V : Nat → Value} {Fp : Nat → List Nat} {o : Oper} {Q : Exit → Act → World → Prop}

theorem wp_val {v : Value} {w' : World} {K : Act → World → Prop} (h : (execOp a.eval o).run P w = .ok (.value v) w') (hk : K (a.put o.dst v) w') : o.wp P a w K Q := by
  unfold Oper.wp; rw [h]; exact hk
theorem wp_skip' {w' : World} {K : Act → World → Prop} (h : (execOp a.eval o).run P w = .ok .skip w') (hk : K (a.put o.dst undef) w') : o.wp P a w K Q := by
  unfold Oper.wp; rw [h]; exact hk

def one (e : GEnt) : Nat → Option GEnt := fun i => if i = 0 then some e else none

/-- A step that leaves the world alone. -/
theorem Pre.pure (h : Pre cx g a w V Fp) {d : Option Tmp} (hd : ∀ t, d = some t → cx.T t) {v : Value} {e : GEnt} (he : ESat cx g.rt V Fp w e v) : GSat cx (g.put d (one e) g.rt) (a.put d v) w := by
  refine GSat.step h.defers h.size h.mem h.ents (Step.id rfl rfl rfl rfl) hd fun i ent hi => ?_
  unfold one at hi
  split at hi
  · rename_i h0; subst h0
    obtain rfl := Option.some.inj hi
    exact ⟨v, rfl, he⟩
  · cases hi
theorem Pre.pureN (h : Pre cx g a w V Fp) {d : Option Tmp} (hd : ∀ t, d = some t → cx.T t) {v : Value} {es : Nat → Option GEnt} (he : ∀ i e, es i = some e → ∃ u, part v i = some u ∧ ESat cx g.rt V Fp w e u) : GSat cx (g.put d es g.rt) (a.put d v) w :=
  GSat.step h.defers h.size h.mem h.ents (Step.id rfl rfl rfl rfl) hd he

theorem ESat.int {rt : Nat → Option GR} {k : IntKind} {n : Int} {v : Value} (h : ESat cx rt V Fp w (.val (.int k) n) v) : v = .int k n := by
  obtain ⟨cs, h1, _, h2⟩ := h
  have h3 := (h2.resolve_left fun h => by cases h.1).2
  simp [Shows, Kt.isAgg] at h1
  rw [h1] at h3
  exact (List.cons.inj h3).1
theorem ESat.bool {rt : Nat → Option GR} {b : Bool} {v : Value} (h : ESat cx rt V Fp w (.val .bool b) v) : v = .bool b := by
  obtain ⟨cs, h1, _, h2⟩ := h
  have h3 := (h2.resolve_left fun h => by cases h.1).2
  simp [Shows, Kt.isAgg] at h1
  rw [h1] at h3
  exact (List.cons.inj h3).1
theorem ESat.str {rt : Nat → Option GR} {b : ByteArray} {v : Value} (h : ESat cx rt V Fp w (.val .str b) v) : v = .string b := by
  obtain ⟨cs, h1, _, h2⟩ := h
  have h3 := (h2.resolve_left fun h => by cases h.1).2
  simp [Shows, Kt.isAgg] at h1
  rw [h1] at h3
  exact (List.cons.inj h3).1
theorem esat_int {rt : Nat → Option GR} (k : IntKind) (n : Int) : ESat cx rt V Fp w (.val (.int k) n) (.int k n) := ⟨_, rfl, rfl, .inr ⟨by simp, rfl⟩⟩
theorem esat_bool {rt : Nat → Option GR} (b : Bool) : ESat cx rt V Fp w (.val .bool b) (.bool b) := ⟨_, rfl, rfl, .inr ⟨by simp, rfl⟩⟩
theorem esat_str {rt : Nat → Option GR} (b : ByteArray) : ESat cx rt V Fp w (.val .str b) (.string b) := ⟨_, rfl, rfl, .inr ⟨by simp, rfl⟩⟩
/-- A slice that is read. -/
theorem ESat.sl {rt : Nat → Option GR} {T : TypeId} {e : Kt} {xs : List e.T} {v : Value} (h : ESat cx rt V Fp w (.val (.sl T e) xs) v) : ∃ A cap, v = .slice A xs.length cap ∧ CapOk xs.length cap ∧
    (Nl A cap xs ∨ ∃ b o cc, A = some ⟨b, o, none⟩ ∧ cx.Sh Fp b ∧ b < w.heap.size ∧ RzL (Rz w (cx.Sh Fp) e .sh) [] xs cc ∧ CellsAt w b o cc) := by
  obtain ⟨cs, h1, _, h2⟩ := h
  obtain ⟨_, A, cap, h3, h4⟩ := h2.resolve_left fun h => by cases h.1
  simp [Shows, Kt.isAgg] at h1
  rw [h1] at h3
  exact ⟨A, cap, (List.cons.inj h3).1, h4⟩

/-- The types of a value's kind. -/
def tyOk (P : Program) (t : TypeId) (k : Kt) : Bool :=
  (match P.underlying t with | some (.struct _) | some (.array _ _) => k.isAgg | some _ => !k.isAgg | none => false) && ((P.info? t).map (·.size) == some k.size)

theorem tyOk_size {t : TypeId} {k : Kt} (h : tyOk P t k = true) : ∃ i, P.info? t = some i ∧ i.size = k.size := by
  unfold tyOk at h
  simp only [Bool.and_eq_true, beq_iff_eq] at h
  obtain ⟨i, h1, h2⟩ := Option.map_eq_some_iff.1 h.2
  exact ⟨i, h1, h2⟩
theorem run_sizeOf' {t : TypeId} {k : Kt} (h : tyOk P t k = true) (w : World) : (sizeOf t).run P w = .ok k.size w := by
  obtain ⟨i, h1, h2⟩ := tyOk_size h
  simp [sizeOf, typeInfo, h1, h2]
theorem run_isAgg {t : TypeId} {k : Kt} (h : tyOk P t k = true) (w : World) : (isAgg t).run P w = .ok k.isAgg w := by
  unfold tyOk at h
  simp only [Bool.and_eq_true] at h
  have h1 := h.1
  cases hd : P.underlying t with
  | none => rw [hd] at h1; cases h1
  | some d =>
    rw [hd] at h1
    simp only [isAgg, Sem.run_bind, run_underlying hd, Result.andThen_ok]
    cases d <;> simp_all

theorem run_loadCells' (b o : Nat) (cs : List Value) (h : CellsAt w b o cs) {n : Nat} (hn : cs.length = n) : (loadCells ⟨b, o, none⟩ n).run P w = .ok cs.toArray w := by
  subst hn
  exact run_loadCells_list w _ cs fun j v hj => by rw [Addr.add_lit]; exact h j v hj

/-- A load of what is there. -/
theorem run_load_at {t : TypeId} {k : Kt} (ht : tyOk P t k = true) {b o' : Nat} {cs : List Value} (hc : CellsAt w b o' cs) (hl : cs.length = k.size) (hk : k.isAgg = false → k.size = 1) :
    ∃ v, (Instr.loadAt t (.pointer (some ⟨b, o', none⟩))).run P w = .ok v w ∧ Shows k v cs := by
  cases ha : k.isAgg with
  | true =>
    refine ⟨.agg cs.toArray, ?_, by simp [Shows, ha]⟩
    simp [Instr.loadAt, Instr.sureAddr, loadVar, run_isAgg ht, ha, run_sizeOf' ht, run_loadCells' b o' cs hc hl]
  | false =>
    rw [hk ha] at hl
    match cs, hl with
    | [v], _ =>
      refine ⟨v, ?_, by simp [Shows, ha]⟩
      have := hc 0 v rfl
      rw [Nat.add_zero] at this
      simp [Instr.loadAt, Instr.sureAddr, loadVar, run_isAgg ht, ha, this]
theorem bare_size : ∀ {k : Kt}, k.isAgg = false → k.size = 1
  | .opt b s, h => bare_size (k := s) h
  | .int _, h => rfl
  | .bool, h => rfl
  | .str, h => rfl
  | .unit, h => by cases h
  | .pair _ _, h => by cases h
  | .arr _ _, h => by cases h
  | .sl _ _, h => rfl
  | .ptr _ _, h => rfl
  | .unk, h => rfl
  | .fn _ _, h => rfl
  | .bld _ _, h => rfl
  | .ifc _ _, h => rfl
  | .fnv, h => rfl
  | .win _, h => rfl
  | .map _ _, h => rfl

/-- load: out of a place that is read. -/
theorem op_load_place (h : Pre cx g a w V Fp) {t : TypeId} {x : Operand} (ho : o.op = .load t x) {k : Kt} {y : k.T} (hx : ESat cx g.rt V Fp w (.place k y) (a.eval x)) (ht : tyOk P t k = true) (hd : ∀ t, o.dst = some t → cx.T t) :
    o.wp P a w (fun a' w' => GSat cx (g.put o.dst (one (.val k y)) g.rt) a' w') Q := by
  obtain ⟨b, o', cc, h1, h2, h3, h4, h5⟩ := hx
  obtain ⟨v, hr, hs⟩ := run_load_at ht h5 (Rz_len _ _ _ _ _ _ _ h4) bare_size
  refine wp_val (v := v) (by simp only [execOp, ho, h1, Sem.run_bind, hr, Result.andThen_ok]; rfl) (h.pure hd ⟨cc, hs, h4⟩)

/-- The part of a root at a path, opened. -/
theorem Pre.hole (h : Pre cx g a w V Fp) {r : Nat} {R : GRoot} (hr : g.rt r = some (some R)) {E : Type} (e : E) {p : Path E} {L : Lens E R.k} (hL : lens R.k R.m p = some L) (hok : L.ok e R.x = true) :
    Hole w (cx.Sh Fp) R.k R.m (Fp r) (hdr R.k (V r)) (p.at e) L.k' L.m' (L.get e R.x) (L.put e R.x) := by
  obtain ⟨cs, h1, h2⟩ := h.mem.roots r R hr
  rw [shows_hdr h1]
  exact Go.Lift.hole e (lens_is _ _ _ _ hL) hok (h.mem.nodup r) h2

theorem app_at {α : Type} (c1 c c2 : List α) {j : Nat} {v : α} (h : c[j]? = some v) : (c1 ++ (c ++ c2))[c1.length + j]? = some v := by
  have : j < c.length := by
    rcases Nat.lt_or_ge j c.length with h' | h'
    · exact h'
    · rw [List.getElem?_eq_none h'] at h; cases h
  rw [List.getElem?_append_right (by omega), Nat.add_sub_cancel_left, List.getElem?_append_left this]
  exact h

/-- Where a part lies, its cells. -/
theorem hole_cells {Sh : Nat → Prop} {k k' : Kt} {m m' : Mk} {F : List Nat} {cs : List Value} {p : List (St Nat)} {y : k'.T} {put : k'.T → k.T} (h : Hole w Sh k m F cs p k' m' y put) {b o' : Nat} (ha : adr w k none cs p = some (b, o')) :
    ∃ Fo c T c1 c2, (∀ b ∈ Fo, b ∈ F) ∧ Rz w Sh k' m' Fo y c ∧ b ∈ F ∧ w.heap[b]? = some (.cells (c1 ++ (c ++ c2)).toArray T (0, 0)) ∧ c1.length = o' ∧ CellsAt w b o' c := by
  obtain ⟨Fa, Fo, Fb, c, rfl, hc, H⟩ := h
  rcases H with ⟨c1, c2, rfl, h1, _⟩ | ⟨b', c1, c2, T, hb, h1, h2, _⟩
  · rw [h1 none] at ha; cases ha
  · have := h1 none
    rw [ha] at this
    obtain ⟨rfl, rfl⟩ := Prod.mk.inj (Option.some.inj this)
    refine ⟨Fo, c, T, c1, c2, fun b hb => by simp only [List.mem_append]; grind, hc, by simp only [List.mem_append]; grind, h2, rfl, fun j v hj => ?_⟩
    rw [cell_of_block h2]
    simpa using app_at c1 c c2 hj

/-- The condition under which a place's slot speaks. -/
def live (R : GRoot) (hv : Nat) (p : List (St Nat)) : Bool := (shal R.k p && (match R.m with | .ow _ => true | _ => false)) || decide (R.hv = hv)

theorem ESat.loc_at {r hv : Nat} {p : List (St Nat)} {v : Value} {R : GRoot} (h : ESat cx g.rt V Fp w (.loc r hv p) v) (hr : g.rt r = some (some R)) (hl : live R hv p = true) (hg : gok R.k R.m R.x p = true) :
    ∃ b o, v = .pointer (some ⟨b, o, none⟩) ∧ adr w R.k none (hdr R.k (V r)) p = some (b, o) := by
  obtain ⟨R0, h1, h2⟩ := h
  rw [hr] at h1
  obtain rfl := Option.some.inj h1
  refine (h2 R rfl).2 ?_
  simp only [live, Bool.or_eq_true, Bool.and_eq_true, decide_eq_true_eq] at hl
  rcases hl with ⟨h3, h4⟩ | h3
  · left
    refine ⟨h3, ?_⟩
    cases hm : R.m <;> rw [hm] at h4 <;> first | exact ⟨_, rfl⟩ | cases h4
  · exact .inr ⟨h3, hg⟩

/-- load: out of an owned place, a part that owns nothing. -/
theorem op_load_own (h : Pre cx g a w V Fp) {t : TypeId} {x : Operand} (ho : o.op = .load t x) {r hv : Nat} {R : GRoot} {E : Type} (e : E) {p : Path E} {L : Lens E R.k} (hx : ESat cx g.rt V Fp w (.loc r hv (p.at e)) (a.eval x))
    (hr : g.rt r = some (some R)) (hl : live R hv (p.at e) = true) (hL : lens R.k R.m p = some L) (hok : L.ok e R.x = true) (hf : L.m'.free = true) (ht : tyOk P t L.k' = true) (hd : ∀ t, o.dst = some t → cx.T t) :
    o.wp P a w (fun a' w' => GSat cx (g.put o.dst (one (.val L.k' (L.get e R.x))) g.rt) a' w') Q := by
  obtain ⟨b, o', h1, h2⟩ := hx.loc_at hr hl (by rw [← gok_lens e (lens_is _ _ _ _ hL)]; exact hok)
  obtain ⟨Fo, c, T, c1, c2, h3, h4, h5, h6, h7, h8⟩ := hole_cells (h.hole hr e hL hok) h2
  obtain ⟨v, hrun, hs⟩ := run_load_at ht h8 (Rz_len _ _ _ _ _ _ _ h4) bare_size
  refine wp_val (v := v) (by simp only [execOp, ho, h1, Sem.run_bind, hrun, Result.andThen_ok]; rfl) (h.pure hd ⟨c, hs, (Rz_free _ _ _ _ _ hf h4).2⟩)

/-- load: a header out of an owned place. -/
theorem op_load_sub (h : Pre cx g a w V Fp) {t : TypeId} {x : Operand} (ho : o.op = .load t x) {r hv : Nat} {R : GRoot} {E : Type} (e : E) {p : Path E} {L : Lens E R.k} (hx : ESat cx g.rt V Fp w (.loc r hv (p.at e)) (a.eval x))
    (hr : g.rt r = some (some R)) (hl : live R hv (p.at e) = true) (hL : lens R.k R.m p = some L) (hok : L.ok e R.x = true) (hf : L.k'.isAgg = false) (ht : tyOk P t L.k' = true) (hd : ∀ t, o.dst = some t → cx.T t) :
    o.wp P a w (fun a' w' => GSat cx (g.put o.dst (one (.sub r R.hv (p.at e))) g.rt) a' w') Q := by
  obtain ⟨b, o', h1, h2⟩ := hx.loc_at hr hl (by rw [← gok_lens e (lens_is _ _ _ _ hL)]; exact hok)
  obtain ⟨Fo, c, T, c1, c2, h3, h4, h5, h6, h7, h8⟩ := hole_cells (h.hole hr e hL hok) h2
  obtain ⟨v, hrun, hs⟩ := run_load_at ht h8 (Rz_len _ _ _ _ _ _ _ h4) bare_size
  simp only [Shows, hf] at hs
  have hs : c = [v] := hs
  refine wp_val (v := v) (by simp only [execOp, ho, h1, Sem.run_bind, hrun, Result.andThen_ok]; rfl) (h.pure hd ⟨_, hr, fun R' hR' => ?_⟩)
  obtain rfl := Option.some.inj hR'
  refine ⟨Nat.le_refl _, fun _ _ => ⟨b, o', h5, h2, ?_⟩⟩
  have := h8 0 v (by rw [hs]; rfl)
  simpa using this

/-! ### Addresses of parts -/
def structOk (P : Program) (t : TypeId) (i off sz : Nat) : Bool :=
  match P.underlying t with
  | some (.struct fs) => match fs[i]? with
    | some f => f.offset == off && ((P.info? f.type).map (·.size) == some sz) && !(sz == 0)
    | none => false
  | _ => false
theorem run_fieldAt {t : TypeId} {i off sz : Nat} (h : structOk P t i off sz = true) (b o' : Nat) (w : World) : (Instr.fieldAt t (.pointer (some ⟨b, o', none⟩)) i).run P w = .ok (.pointer (some ⟨b, o' + off, none⟩)) w := by
  unfold structOk at h
  split at h <;> try (cases h; done)
  rename_i fs hfs
  split at h <;> try (cases h; done)
  rename_i f hf
  simp only [Bool.and_eq_true, beq_iff_eq, Bool.not_eq_true', beq_eq_false_iff_ne] at h
  obtain ⟨⟨h1, h2⟩, h3⟩ := h
  obtain ⟨inf, h4, h5⟩ := Option.map_eq_some_iff.1 h2
  simp [Instr.fieldAt, run_underlying hfs, hf, Instr.sureAddr, fieldPlace, sizeOf, typeInfo, h4, h5, h3, Addr.add_lit, h1]

end

def Blk (w : World) (b : Nat) : Prop := ∃ C T, w.heap[b]? = some (.cells C T (0, 0))

theorem CellsAt.left {w : World} {b o : Nat} {c d : List Value} (h : CellsAt w b o (c ++ d)) : CellsAt w b o c := fun j v hj => h j v (by
  rw [List.getElem?_append_left]
  · exact hj
  · rcases Nat.lt_or_ge j c.length with h' | h'
    · exact h'
    · rw [List.getElem?_eq_none h'] at hj; cases hj)
theorem CellsAt.right {w : World} {b o : Nat} {c d : List Value} (h : CellsAt w b o (c ++ d)) : CellsAt w b (o + c.length) d := fun j v hj => by
  rw [Nat.add_assoc]
  exact h _ v (by rw [List.getElem?_append_right (by omega), Nat.add_sub_cancel_left]; exact hj)

theorem comp_sl {E : Type} (e : E) {w : World} {T : TypeId} {a : Kt} {m : Mk} {i : E → Nat} {p : Path E} {L : Lens E a}
    (ih : ∀ {Sh : Nat → Prop} {F : List Nat} {x : a.T} {cs : List Value}, L.ok e x = true → Rz w Sh a m F x cs →
      ∃ Fo c, Rz w Sh L.k' L.m' Fo (L.get e x) c ∧ (∀ loc q, adr w a loc cs (p.at e ++ q) = adr w L.k' (adr w a loc cs (p.at e)) c q) ∧
      (∀ loc, (∀ b o, loc = some (b, o) → CellsAt w b o cs ∧ Blk w b) → ∀ b o, adr w a loc cs (p.at e) = some (b, o) → CellsAt w b o c ∧ Blk w b)) :
    ∀ {Sh : Nat → Prop} {F : List Nat} {x : List a.T} {cs : List Value}, (decide (i e < x.length) && L.ok e (x.getD (i e) a.dflt)) = true → Rz w Sh (.sl T a) (.ow m) F x cs →
      ∃ Fo c, Rz w Sh L.k' L.m' Fo (L.get e (x.getD (i e) a.dflt)) c ∧ (∀ loc q, adr w (.sl T a) loc cs (Path.at (.ix i :: p) e ++ q) = adr w L.k' (adr w (.sl T a) loc cs (Path.at (.ix i :: p) e)) c q) ∧
      (∀ loc b o, adr w (.sl T a) loc cs (Path.at (.ix i :: p) e) = some (b, o) → CellsAt w b o c ∧ Blk w b) := by
  intro Sh F x cs hok h
  simp only [Bool.and_eq_true, decide_eq_true_eq] at hok
  obtain ⟨hi, hok⟩ := hok
  rcases h with ⟨_, rfl, _⟩ | ⟨g, cap, C, Fe, rfl, rfl, hh, hC, hcap, hx⟩
  · exact absurd hi (by simp)
  generalize hD : C.toList.take (x.length * a.size) = D at hx
  generalize hR : C.toList.drop (x.length * a.size) = R
  have hCD : C.toList = D ++ R := by rw [← hD, ← hR, List.take_append_drop]
  obtain ⟨F1, Fi, F2, d1, d, d2, rfl, rfl, h1, h2, h3⟩ := hx.get hi
  have hx' : x.getD (i e) a.dflt = x[i e] := by simp [hi]
  rw [hx'] at hok
  have hl1 := h1.len (Rz_len _ _ _ _)
  rw [List.length_take, Nat.min_eq_left (by omega)] at hl1
  have hl2 := Rz_len _ _ _ _ _ _ _ h2
  have hadr : ∀ loc len cap q, adr w (.sl T a) loc [.slice (some ⟨g, 0, none⟩) len cap] (.ix (i e) :: q) = adr w a (some (g, i e * a.size)) d q := by
    intro loc len cap q
    simp only [adr, hh]
    rw [hCD, List.append_assoc, drop_len _ _ hl1, List.append_assoc, take_len _ _ hl2]
  obtain ⟨Fo, c, hc, H1, H2⟩ := ih hok h2
  refine ⟨Fo, c, by (show Rz w Sh L.k' L.m' Fo (L.get e (x.getD (i e) a.dflt)) c); rw [hx']; exact hc, fun loc q => ?_, fun loc b' o hb => ?_⟩
  · show adr w (.sl T a) loc _ (.ix (i e) :: (p.at e ++ q)) = adr w L.k' (adr w (.sl T a) loc _ (.ix (i e) :: p.at e)) c q
    rw [hadr, hadr]; exact H1 _ q
  · have hb : adr w (.sl T a) loc _ (.ix (i e) :: p.at e) = some (b', o) := hb
    rw [hadr] at hb
    refine H2 _ (fun b o hbo => ?_) b' o hb
    obtain ⟨rfl, rfl⟩ := Prod.mk.inj (Option.some.inj hbo)
    have := CellsAt_block (n := C.toList.length) hh
    rw [List.take_length, hCD, List.append_assoc] at this
    have := this.right
    rw [Nat.zero_add, List.append_assoc] at this
    exact ⟨by rw [← hl1]; exact this.left, _, _, hh⟩

/-- A path and a path behind it. -/
theorem adr_comp {E : Type} (e : E) {w : World} {p : Path E} {k : Kt} {m : Mk} {L : Lens E k} (hL : LensIs k m p L) : ∀ {Sh : Nat → Prop} {F : List Nat} {x : k.T} {cs : List Value}, L.ok e x = true → Rz w Sh k m F x cs →
    ∃ Fo c, Rz w Sh L.k' L.m' Fo (L.get e x) c ∧ (∀ loc q, adr w k loc cs (p.at e ++ q) = adr w L.k' (adr w k loc cs (p.at e)) c q) ∧
      (∀ loc, (∀ b o, loc = some (b, o) → CellsAt w b o cs ∧ Blk w b) → ∀ b o, adr w k loc cs (p.at e) = some (b, o) → CellsAt w b o c ∧ Blk w b) := by
  induction hL with
  | nil k m =>
    intro Sh F x cs _ h
    exact ⟨F, cs, h, fun loc q => by simp [Path.at, adr_nil], fun loc hl b o hb => hl b o (by simpa [Path.at, adr_nil] using hb)⟩
  | @l a b m p L hL ih =>
    intro Sh F x cs hok h
    obtain ⟨F1, F2, d1, d2, rfl, rfl, h1, h2⟩ := h
    have hl1 := Rz_len _ _ _ _ _ _ _ h1
    obtain ⟨Fo, c, hc, H1, H2⟩ := ih hok h1
    refine ⟨Fo, c, hc, fun loc q => ?_, fun loc hl b' o hb => ?_⟩
    · show adr w a loc ((d1 ++ d2).take a.size) (p.at e ++ q) = adr w L.k' (adr w a loc ((d1 ++ d2).take a.size) (p.at e)) c q
      rw [take_len _ _ hl1]; exact H1 loc q
    · have hb : adr w a loc ((d1 ++ d2).take a.size) (p.at e) = some (b', o) := hb
      rw [take_len _ _ hl1] at hb
      exact H2 loc (fun b o hbo => ⟨(hl b o hbo).1.left, (hl b o hbo).2⟩) b' o hb
  | @r a b m p L hL ih =>
    intro Sh F x cs hok h
    obtain ⟨F1, F2, d1, d2, rfl, rfl, h1, h2⟩ := h
    have hl1 := Rz_len _ _ _ _ _ _ _ h1
    obtain ⟨Fo, c, hc, H1, H2⟩ := ih hok h2
    refine ⟨Fo, c, hc, fun loc q => ?_, fun loc hl b' o hb => ?_⟩
    · show adr w b (loc.map fun q => (q.1, q.2 + a.size)) ((d1 ++ d2).drop a.size) (p.at e ++ q) = adr w L.k' (adr w b (loc.map fun q => (q.1, q.2 + a.size)) ((d1 ++ d2).drop a.size) (p.at e)) c q
      rw [drop_len _ _ hl1]; exact H1 _ q
    · have hb : adr w b (loc.map fun q => (q.1, q.2 + a.size)) ((d1 ++ d2).drop a.size) (p.at e) = some (b', o) := hb
      rw [drop_len _ _ hl1] at hb
      refine H2 _ (fun b o hbo => ?_) b' o hb
      obtain ⟨⟨b0, o0⟩, rfl, hq⟩ := Option.map_eq_some_iff.1 hbo
      obtain ⟨rfl, rfl⟩ := Prod.mk.inj hq
      have := hl b0 o0 rfl
      exact ⟨by rw [← hl1]; exact this.1.right, this.2⟩
  | @arr n a m i p L hL ih =>
    intro Sh F x cs hok h
    obtain ⟨hn, hx⟩ := h
    simp only [Bool.and_eq_true, decide_eq_true_eq] at hok
    obtain ⟨hi, hok⟩ := hok
    obtain ⟨F1, Fi, F2, d1, d, d2, rfl, rfl, h1, h2, h3⟩ := hx.get hi
    have hx' : x.getD (i e) a.dflt = x[i e] := by simp [hi]
    rw [hx'] at hok
    have hl1 := h1.len (Rz_len _ _ _ _)
    rw [List.length_take, Nat.min_eq_left (by omega)] at hl1
    have hl2 := Rz_len _ _ _ _ _ _ _ h2
    obtain ⟨Fo, c, hc, H1, H2⟩ := ih hok h2
    refine ⟨Fo, c, by (show Rz w Sh L.k' L.m' Fo (L.get e (x.getD (i e) a.dflt)) c); rw [hx']; exact hc, fun loc q => ?_, fun loc hl b' o hb => ?_⟩
    · show adr w a (loc.map fun q => (q.1, q.2 + i e * a.size)) (((d1 ++ (d ++ d2)).drop (i e * a.size)).take a.size) (p.at e ++ q) = adr w L.k' (adr w a (loc.map fun q => (q.1, q.2 + i e * a.size)) (((d1 ++ (d ++ d2)).drop (i e * a.size)).take a.size) (p.at e)) c q
      rw [drop_len _ _ hl1, take_len _ _ hl2]; exact H1 _ q
    · have hb : adr w a (loc.map fun q => (q.1, q.2 + i e * a.size)) (((d1 ++ (d ++ d2)).drop (i e * a.size)).take a.size) (p.at e) = some (b', o) := hb
      rw [drop_len _ _ hl1, take_len _ _ hl2] at hb
      refine H2 _ (fun b o hbo => ?_) b' o hb
      obtain ⟨⟨b0, o0⟩, rfl, hq⟩ := Option.map_eq_some_iff.1 hbo
      obtain ⟨rfl, rfl⟩ := Prod.mk.inj hq
      have := hl b0 o0 rfl
      exact ⟨by rw [← hl1]; exact this.1.right.left, this.2⟩
  | @sl T a m i p L hL ih =>
    intro Sh F x cs hok h
    obtain ⟨Fo, c, h1, h2, h3⟩ := comp_sl (T := T) (i := i) e ih hok h
    exact ⟨Fo, c, h1, h2, fun loc _ => h3 loc⟩
  | @win T a m i p L hL ih =>
    intro Sh F x cs hok h
    rw [Bool.and_eq_true] at hok
    obtain ⟨hok1, hok2⟩ := hok
    obtain ⟨_, A, n, cap, rfl, hn, hz⟩ := h.resolve_left fun h => by cases h.1
    obtain ⟨Fo, c, h1, h2, h3⟩ := comp_sl (T := T) (i := i) e ih hok2 hz
    have hw : ∀ loc q, adr w (.win (.sl T a)) loc [.slice A x.2 cap] (Path.at (.ix i :: p) e ++ q) = adr w (.sl T a) loc [.slice A n cap] (Path.at (.ix i :: p) e ++ q) := by
      intro loc q
      simp only [Path.at, List.map_cons, St.map, List.cons_append]
      rw [adr_win]
    have hw0 : ∀ loc, adr w (.win (.sl T a)) loc [.slice A x.2 cap] (Path.at (.ix i :: p) e) = adr w (.sl T a) loc [.slice A n cap] (Path.at (.ix i :: p) e) := by
      intro loc
      simp only [Path.at, List.map_cons, St.map]
      rw [adr_win]
    refine ⟨Fo, c, h1, fun loc q => ?_, fun loc _ b o hb => ?_⟩
    · rw [hw, hw0]; exact h2 loc q
    · rw [hw0] at hb; exact h3 loc b o hb
  | @opt b a m p L hL ih =>
    intro Sh F x cs hok h
    rw [Bool.and_eq_true] at hok
    obtain ⟨hok1, hok2⟩ := hok
    rcases h with ⟨rfl, _⟩ | ⟨y, rfl, h⟩
    · cases hok1
    exact ih hok2 h
  | @ad T a m p L hL ih =>
    intro Sh F x cs hok h
    obtain ⟨g, C, Fe, rfl, rfl, hh, hx⟩ := h
    have hadr : ∀ loc q, adr w (.ptr T a) loc [.pointer (some ⟨g, 0, none⟩)] (.ad :: q) = adr w a (some (g, 0)) C.toList q := by
      intro loc q
      simp only [adr, hh]
    obtain ⟨Fo, c, hc, H1, H2⟩ := ih hok hx
    refine ⟨Fo, c, hc, fun loc q => ?_, fun loc hl b' o hb => ?_⟩
    · show adr w (.ptr T a) loc _ (.ad :: (p.at e ++ q)) = adr w L.k' (adr w (.ptr T a) loc _ (.ad :: p.at e)) c q
      rw [hadr, hadr]; exact H1 _ q
    · have hb : adr w (.ptr T a) loc _ (.ad :: p.at e) = some (b', o) := hb
      rw [hadr] at hb
      refine H2 _ (fun b o hbo => ?_) b' o hb
      obtain ⟨rfl, rfl⟩ := Prod.mk.inj (Option.some.inj hbo)
      have := CellsAt_block (n := C.toList.length) hh
      rw [List.take_length] at this
      exact ⟨this, _, _, hh⟩

section
variable {P : Program} {cx : Cx} {g : G} {a : Act} {w : World} {V : Nat → Value} {Fp : Nat → List Nat} {o : Oper} {Q : Exit → Act → World → Prop}

theorem hdr_shows {k : Kt} {v : Value} {cs : List Value} (h : Shows k v cs) : hdr k v = cs := shows_hdr h

/-- The part of a root at a path: its cells, and what lies behind it. -/
theorem Pre.comp (h : Pre cx g a w V Fp) {r : Nat} {R : GRoot} (hr : g.rt r = some (some R)) {E : Type} (e : E) {p : Path E} {L : Lens E R.k} (hL : lens R.k R.m p = some L) (hok : L.ok e R.x = true) :
    ∃ Fo c, Rz w (cx.Sh Fp) L.k' L.m' Fo (L.get e R.x) c ∧ (∀ q, adr w R.k none (hdr R.k (V r)) (p.at e ++ q) = adr w L.k' (adr w R.k none (hdr R.k (V r)) (p.at e)) c q) ∧
      (∀ b o, adr w R.k none (hdr R.k (V r)) (p.at e) = some (b, o) → CellsAt w b o c ∧ Blk w b) := by
  obtain ⟨cs, h1, h2⟩ := h.mem.roots r R hr
  rw [shows_hdr h1]
  obtain ⟨Fo, c, h3, h4, h5⟩ := adr_comp e (lens_is _ _ _ _ hL) hok h2
  exact ⟨Fo, c, h3, h4 none, h5 none (fun b o hb => by cases hb)⟩

theorem Path.at_append {E : Type} (p q : Path E) (e : E) : Path.at (p ++ q) e = p.at e ++ q.at e := by simp [Path.at]

/-- A place's slot, made anew. -/
theorem esat_loc {rt : Nat → Option GR} {r : Nat} {R : GRoot} (hr : rt r = some (some R)) {p : List (St Nat)} {b o' : Nat} (ha : adr w R.k none (hdr R.k (V r)) p = some (b, o')) : ESat cx rt V Fp w (.loc r R.hv p) (.pointer (some ⟨b, o', none⟩)) :=
  ⟨_, hr, fun R' hR' => by
    obtain rfl := Option.some.inj hR'
    exact ⟨Nat.le_refl _, fun _ => ⟨b, o', rfl, ha⟩⟩⟩

/-- fieldAddr: in an owned place. -/
theorem op_field_loc (h : Pre cx g a w V Fp) {t : TypeId} {x : Operand} {i : Nat} (ho : o.op = .fieldAddr t x i) {r hv : Nat} {R : GRoot} {E : Type} (e : E) {p q : Path E} {L : Lens E R.k} (hx : ESat cx g.rt V Fp w (.loc r hv (p.at e)) (a.eval x))
    (hr : g.rt r = some (some R)) (hl : live R hv (p.at e) = true) (hL : lens R.k R.m p = some L) (hok : L.ok e R.x = true) (hq : flatp L.k' (q.at e) = true) {sz : Nat} (ht : structOk P t i (foff L.k' (q.at e)) sz = true) (hd : ∀ t, o.dst = some t → cx.T t) :
    o.wp P a w (fun a' w' => GSat cx (g.put o.dst (one (.loc r R.hv (Path.at (p ++ q) e))) g.rt) a' w') Q := by
  obtain ⟨b, o', h1, h2⟩ := hx.loc_at hr hl (by rw [← gok_lens e (lens_is _ _ _ _ hL)]; exact hok)
  obtain ⟨Fo, c, h3, h4, h5⟩ := h.comp hr e hL hok
  refine wp_val (v := .pointer (some ⟨b, o' + foff L.k' (q.at e), none⟩)) (by simp only [execOp, ho, h1, Sem.run_bind, run_fieldAt ht, Result.andThen_ok]; rfl) (h.pure hd (esat_loc hr ?_))
  rw [Path.at_append, h4, h2, adr_flat _ _ _ _ _ hq]
  rfl

/-- fieldAddr: in a place that is read. -/
theorem op_field_place (h : Pre cx g a w V Fp) {t : TypeId} {x : Operand} {i : Nat} (ho : o.op = .fieldAddr t x i) {k : Kt} {y : k.T} {E : Type} (e : E) {q : Path E} {L : Lens E k} (hx : ESat cx g.rt V Fp w (.place k y) (a.eval x))
    (hL : lens k .sh q = some L) (hok : L.ok e y = true) (hq : flatp k (q.at e) = true) {sz : Nat} (ht : structOk P t i (foff k (q.at e)) sz = true) (hd : ∀ t, o.dst = some t → cx.T t) :
    o.wp P a w (fun a' w' => GSat cx (g.put o.dst (one (.place L.k' (L.get e y))) g.rt) a' w') Q := by
  obtain ⟨b, o', cc, h1, h2, h3, h4, h5⟩ := hx
  refine wp_val (v := .pointer (some ⟨b, o' + foff k (q.at e), none⟩)) (by simp only [execOp, ho, h1, Sem.run_bind, run_fieldAt ht, Result.andThen_ok]; rfl) (h.pure hd ?_)
  obtain ⟨Fa, Fo, Fb, c, h6, h7, H⟩ := Go.Lift.hole e (lens_is _ _ _ _ hL) hok List.nodup_nil h4
  have hFo : Fo = [] := by
    have := congrArg List.length h6
    simp only [List.length_nil, List.length_append] at this
    exact List.length_eq_zero_iff.1 (by omega)
  subst hFo
  rcases H with ⟨c1, c2, rfl, h8, _⟩ | ⟨b', c1, c2, T, hb, _⟩
  · have h9 : foff k (q.at e) = c1.length := by
      have := h8 (some (0, 0))
      rw [adr_flat _ _ _ _ _ hq] at this
      simpa using this
    refine ⟨b, _, c, rfl, h2, h3, ?_, ?_⟩
    · have : ∀ {m : Mk} {p : Path E} {k : Kt} {L : Lens E k}, LensIs k m p L → m = .sh → flatp k (p.at e) = true → L.m' = .sh := by
        intro m p k L hL
        induction hL with
        | nil k m => intro h _; exact h
        | l hL ih => intro h hf; subst h; exact ih rfl hf
        | r hL ih => intro h hf; subst h; exact ih rfl hf
        | arr hL ih => intro h hf; subst h; exact ih rfl hf
        | sl hL ih => intro h; cases h
        | ad hL ih => intro h; cases h
        | win hL ih => intro h; cases h
        | opt hL ih => intro h hf; subst h; exact ih rfl hf
      rw [this (lens_is _ _ _ _ hL) rfl hq] at h7
      exact h7
    · rw [h9]
      exact h5.right.left
  · have := congrArg List.length h6
    simp only [List.length_nil, List.length_append] at this
    rw [List.length_eq_zero_iff.1 (show Fa.length = 0 by omega)] at hb
    cases hb

theorem run_indexAt_sl {t e : TypeId} {k : Kt} (ht : P.underlying t = some (.slice e)) (hk : (P.info? e).map (·.size) = some k.size) (b o' len cap : Nat) {ik : IntKind} {i : Int} (h0 : 0 ≤ i) (h1 : i < len) (w : World) :
    (Instr.indexAt t (.slice (some ⟨b, o', none⟩) len cap) (.int ik i)).run P w = .ok (.pointer (some ⟨b, o' + i.toNat * k.size, none⟩)) w := by
  obtain ⟨inf, h4, h5⟩ := Option.map_eq_some_iff.1 hk
  simp [Instr.indexAt, run_underlying ht, asIntOf, h0, h1, sizeOf, typeInfo, h4, h5, Addr.add_lit]

def sliceOk (P : Program) (t : TypeId) (T : TypeId) (e : Kt) : Bool := (match P.underlying t with | some (.slice e') => e' == T | _ => false) && ((P.info? T).map (·.size) == some e.size)
theorem sliceOk_spec {t T : TypeId} {e : Kt} (h : sliceOk P t T e = true) : P.underlying t = some (.slice T) ∧ (P.info? T).map (·.size) = some e.size := by
  unfold sliceOk at h
  simp only [Bool.and_eq_true, beq_iff_eq] at h
  refine ⟨?_, h.2⟩
  have h1 := h.1
  split at h1
  · rename_i e' he
    rw [he, eq_of_beq h1]
  · cases h1

/-- indexAddr: of a slice that is read. -/
theorem op_index_val (h : Pre cx g a w V Fp) {t : TypeId} {x y : Operand} (ho : o.op = .indexAddr t x y) {T : TypeId} {e : Kt} {xs : List e.T} {ik : IntKind} {i : Int} (hx : ESat cx g.rt V Fp w (.val (.sl T e) xs) (a.eval x)) (hy : ESat cx g.rt V Fp w (.val (.int ik) i) (a.eval y))
    (ht : sliceOk P t T e = true) (h0 : 0 ≤ i) (h1 : i < xs.length) (hd : ∀ t, o.dst = some t → cx.T t) :
    o.wp P a w (fun a' w' => GSat cx (g.put o.dst (one (.place e (xs.getD i.toNat e.dflt))) g.rt) a' w') Q := by
  obtain ⟨A, cap, h2, h3, h4⟩ := hx.sl
  obtain ⟨hu, hs⟩ := sliceOk_spec ht
  rcases h4 with ⟨rfl, _⟩ | ⟨b, o', cc, rfl, h5, h6, h7, h8⟩
  · exact absurd h1 (by simp; omega)
  · have hi : i.toNat < xs.length := by omega
    refine wp_val (v := .pointer (some ⟨b, o' + i.toNat * e.size, none⟩)) (by simp only [execOp, ho, h2, hy.int, Sem.run_bind, run_indexAt_sl hu hs b o' xs.length cap h0 h1, Result.andThen_ok]; rfl) (h.pure hd ?_)
    obtain ⟨F1, Fi, F2, d1, d, d2, hF, rfl, k1, k2, k3⟩ := h7.get hi
    have hFi : Fi = [] := by
      have := congrArg List.length hF
      simp only [List.length_nil, List.length_append] at this
      exact List.length_eq_zero_iff.1 (by omega)
    subst hFi
    have hl1 := k1.len (Rz_len _ _ _ _)
    rw [List.length_take, Nat.min_eq_left (by omega)] at hl1
    have hx' : xs.getD i.toNat e.dflt = xs[i.toNat] := by simp [hi]
    rw [hx']
    exact ⟨b, _, d, rfl, h5, h6, k2, by rw [← hl1]; exact h8.right.left⟩

/-- indexAddr: of an owned slice. -/
theorem op_index_own (h : Pre cx g a w V Fp) {t : TypeId} {x y : Operand} (ho : o.op = .indexAddr t x y) {r : Nat} {T : TypeId} {e : Kt} {m : Mk} {hv : Nat} {xs : List e.T} {ik : IntKind} {i : Int} (hx : ESat cx g.rt V Fp w (.own r) (a.eval x)) (hr : g.rt r = some (some ⟨.sl T e, .ow m, hv, xs⟩)) (hy : ESat cx g.rt V Fp w (.val (.int ik) i) (a.eval y))
    (ht : sliceOk P t T e = true) (h0 : 0 ≤ i) (h1 : i < xs.length) (hd : ∀ t, o.dst = some t → cx.T t) :
    o.wp P a w (fun a' w' => GSat cx (g.put o.dst (one (.loc r hv [.ix i.toNat])) g.rt) a' w') Q := by
  obtain ⟨R, hr', hv'⟩ := hx
  rw [hr] at hr'
  obtain rfl := Option.some.inj hr'
  have hv' := hv' (by simp)
  obtain ⟨hu, hs⟩ := sliceOk_spec ht
  obtain ⟨cs, k1, k2⟩ := h.mem.roots r _ hr
  simp [Shows, Kt.isAgg] at k1
  subst k1
  rcases k2 with ⟨_, rfl, _⟩ | ⟨b, cap, C, Fe, k3, k4, k5, k6, k7, k8⟩
  · exact absurd h1 (by simp; omega)
  · have k3 := (List.cons.inj k3).1
    refine wp_val (v := .pointer (some ⟨b, 0 + i.toNat * e.size, none⟩)) (by simp only [execOp, ho, hv', k3, hy.int, Sem.run_bind, run_indexAt_sl hu hs b 0 xs.length cap h0 h1, Result.andThen_ok]; rfl) (h.pure hd (esat_loc hr ?_))
    simp only [hdr, Kt.isAgg, k3]
    simp [adr, k5, adr_nil]
end
end Go.Lift

namespace Go.Lift
set_option linter.unusedVariables false
set_option linter.unusedSimpArgs false
section
variable {P : Program} {cx : Cx} {g : G} {a : Act} {w : World} {V : Nat → Value} {Fp : Nat → List Nat} {o : Oper} {Q : Exit → Act → World → Prop}

/-- indexAddr: of a slice in an owned place. -/
theorem op_index_sub (h : Pre cx g a w V Fp) {t : TypeId} {x y : Operand} (ho : o.op = .indexAddr t x y) {r hv : Nat} {R : GRoot} {E : Type} (e : E) {p : Path E} {T : TypeId} {el : Kt} {m : Mk} {get : E → R.k.T → List el.T} {put : E → R.k.T → List el.T → R.k.T} {ok : E → R.k.T → Bool} {ik : IntKind} {i : Int}
    (hx : ESat cx g.rt V Fp w (.sub r hv (p.at e)) (a.eval x)) (hr : g.rt r = some (some R)) (hhv : R.hv = hv) (hL : lens R.k R.m p = some ⟨.sl T el, .ow m, get, put, ok⟩) (hok : ok e R.x = true) (hy : ESat cx g.rt V Fp w (.val (.int ik) i) (a.eval y))
    (ht : sliceOk P t T el = true) (h0 : 0 ≤ i) (h1 : i < (get e R.x).length) {q : Path E} (hq : q.at e = [.ix i.toNat]) (hd : ∀ t, o.dst = some t → cx.T t) :
    o.wp P a w (fun a' w' => GSat cx (g.put o.dst (one (.loc r R.hv (Path.at (p ++ q) e))) g.rt) a' w') Q := by
  obtain ⟨R0, h2, h3⟩ := hx
  rw [hr] at h2
  obtain rfl := Option.some.inj h2
  have hg : gok R.k R.m R.x (p.at e) = true := by rw [← gok_lens e (lens_is _ _ _ _ hL)]; exact hok
  obtain ⟨b, o', hb, h4, h5⟩ := (h3 R rfl).2 hhv hg
  obtain ⟨Fo, c, h6, h7, h8⟩ := h.comp hr e hL hok
  obtain ⟨hu, hs⟩ := sliceOk_spec ht
  rcases h6 with ⟨_, k1, _⟩ | ⟨b', cap, C, Fe, k3, k4, k5, k6, k7, k8⟩
  · have k1 : get e R.x = [] := k1
    rw [k1] at h1; exact absurd h1 (by simp; omega)
  · have hv' : a.eval x = .slice (some ⟨b', 0, none⟩) (get e R.x).length cap := by
      have := (h8 b o' h4).1 0 _ (by rw [k3]; rfl)
      rw [Nat.add_zero, h5] at this
      exact Option.some.inj this
    refine wp_val (v := .pointer (some ⟨b', 0 + i.toNat * el.size, none⟩)) (by simp only [execOp, ho, hv', hy.int, Sem.run_bind, run_indexAt_sl hu hs b' 0 (get e R.x).length cap h0 h1, Result.andThen_ok]; rfl) (h.pure hd (esat_loc hr ?_))
    rw [Path.at_append, h7, h4, hq]
    rw [k3]
    simp [adr, k5, adr_nil]

def arrayOk (P : Program) (t : TypeId) (n : Nat) (e : Kt) : Bool := match P.underlying t with | some (.array n' T) => n' == n && ((P.info? T).map (·.size) == some e.size) | _ => false
theorem run_indexAt_arr {t : TypeId} {n : Nat} {k : Kt} (ht : arrayOk P t n k = true) (b o' : Nat) {ik : IntKind} {i : Int} (h0 : 0 ≤ i) (h1 : i < n) (w : World) :
    (Instr.indexAt t (.pointer (some ⟨b, o', none⟩)) (.int ik i)).run P w = .ok (.pointer (some ⟨b, o' + i.toNat * k.size, none⟩)) w := by
  unfold arrayOk at ht
  split at ht <;> try (cases ht; done)
  rename_i n' T hu
  simp only [Bool.and_eq_true, beq_iff_eq] at ht
  obtain ⟨rfl, hk⟩ := ht
  obtain ⟨inf, h4, h5⟩ := Option.map_eq_some_iff.1 hk
  simp [Instr.indexAt, run_underlying hu, asIntOf, h0, h1, sizeOf, typeInfo, h4, h5, Addr.add_lit, Instr.sureAddr]

/-- indexAddr: of an array in an owned place. -/
theorem op_index_loc (h : Pre cx g a w V Fp) {t : TypeId} {x y : Operand} (ho : o.op = .indexAddr t x y) {r hv : Nat} {R : GRoot} {E : Type} (e : E) {p : Path E} {n : Nat} {el : Kt} {m : Mk} {get : E → R.k.T → List el.T} {put : E → R.k.T → List el.T → R.k.T} {ok : E → R.k.T → Bool} {ik : IntKind} {i : Int}
    (hx : ESat cx g.rt V Fp w (.loc r hv (p.at e)) (a.eval x)) (hr : g.rt r = some (some R)) (hl : live R hv (p.at e) = true) (hL : lens R.k R.m p = some ⟨.arr n el, m, get, put, ok⟩) (hok : ok e R.x = true) (hy : ESat cx g.rt V Fp w (.val (.int ik) i) (a.eval y))
    (ht : arrayOk P t n el = true) (h0 : 0 ≤ i) (h1 : i < n) {q : Path E} (hq : q.at e = [.ix i.toNat]) (hd : ∀ t, o.dst = some t → cx.T t) :
    o.wp P a w (fun a' w' => GSat cx (g.put o.dst (one (.loc r R.hv (Path.at (p ++ q) e))) g.rt) a' w') Q := by
  obtain ⟨b, o', h1', h2⟩ := hx.loc_at hr hl (by rw [← gok_lens e (lens_is _ _ _ _ hL)]; exact hok)
  obtain ⟨Fo, c, h3, h4, h5⟩ := h.comp hr e hL hok
  refine wp_val (v := .pointer (some ⟨b, o' + i.toNat * el.size, none⟩)) (by simp only [execOp, ho, h1', hy.int, Sem.run_bind, run_indexAt_arr ht b o' h0 h1, Result.andThen_ok]; rfl) (h.pure hd (esat_loc hr ?_))
  rw [Path.at_append, h4, h2, hq]
  simp [adr, adr_nil]

/-- indexAddr: of an array in a place that is read. -/
theorem op_index_place (h : Pre cx g a w V Fp) {t : TypeId} {x y : Operand} (ho : o.op = .indexAddr t x y) {n : Nat} {el : Kt} {xs : List el.T} {ik : IntKind} {i : Int}
    (hx : ESat cx g.rt V Fp w (.place (.arr n el) xs) (a.eval x)) (hy : ESat cx g.rt V Fp w (.val (.int ik) i) (a.eval y))
    (ht : arrayOk P t n el = true) (h0 : 0 ≤ i) (h1 : i < n) (hd : ∀ t, o.dst = some t → cx.T t) :
    o.wp P a w (fun a' w' => GSat cx (g.put o.dst (one (.place el (xs.getD i.toNat el.dflt))) g.rt) a' w') Q := by
  obtain ⟨b, o', cc, k1, k2, k3, ⟨k4, k5⟩, k6⟩ := hx
  have hi : i.toNat < xs.length := by omega
  refine wp_val (v := .pointer (some ⟨b, o' + i.toNat * el.size, none⟩)) (by simp only [execOp, ho, k1, hy.int, Sem.run_bind, run_indexAt_arr ht b o' h0 h1, Result.andThen_ok]; rfl) (h.pure hd ?_)
  obtain ⟨F1, Fi, F2, d1, d, d2, hF, rfl, j1, j2, j3⟩ := k5.get hi
  have hFi : Fi = [] := by
    have := congrArg List.length hF
    simp only [List.length_nil, List.length_append] at this
    exact List.length_eq_zero_iff.1 (by omega)
  subst hFi
  have hl1 := j1.len (Rz_len _ _ _ _)
  rw [List.length_take, Nat.min_eq_left (by omega)] at hl1
  have hx' : xs.getD i.toNat el.dflt = xs[i.toNat] := by simp [hi]
  rw [hx']
  exact ⟨b, _, d, rfl, k2, k3, j2, by rw [← hl1]; exact k6.right.left⟩

/-! ### A pointer is a place -/
theorem esat_val_ptr {rt : Nat → Option GR} {T : TypeId} {k : Kt} {y : k.T} {v : Value} (h : ESat cx rt V Fp w (.val (.ptr T k) y) v) : ESat cx rt V Fp w (.place k y) v := by
  obtain ⟨cs, h1, _, h2⟩ := h
  obtain ⟨_, b, o, cc, h3, h4⟩ := h2.resolve_left fun h => by cases h.1
  simp [Shows, Kt.isAgg] at h1
  rw [h1] at h3
  exact ⟨b, o, cc, (List.cons.inj h3).1, h4⟩
theorem Pre.own_ptr (h : Pre cx g a w V Fp) {r : Nat} {T : TypeId} {k : Kt} {m : Mk} {hv : Nat} {x : k.T} {v : Value} (hr : g.rt r = some (some ⟨.ptr T k, .ow m, hv, x⟩)) (hx : ESat cx g.rt V Fp w (.own r) v) : ESat cx g.rt V Fp w (.loc r hv [.ad]) v := by
  obtain ⟨R, hr', hv'⟩ := hx
  rw [hr] at hr'
  obtain rfl := Option.some.inj hr'
  have hv' := hv' (by simp)
  obtain ⟨cs, k1, k2⟩ := h.mem.roots r _ hr
  simp [Shows, Kt.isAgg] at k1
  subst k1
  obtain ⟨b, C, Fe, k3, k4, k5, k6⟩ := k2
  have k3 := (List.cons.inj k3).1
  rw [hv', k3]
  refine esat_loc hr ?_
  simp only [hdr, Kt.isAgg, k3]
  simp [adr, k5, adr_nil]
theorem Pre.sub_ptr (h : Pre cx g a w V Fp) {r hv : Nat} {R : GRoot} {E : Type} (e : E) {p q : Path E} {T : TypeId} {el : Kt} {m : Mk} {get : E → R.k.T → el.T} {put : E → R.k.T → el.T → R.k.T} {ok : E → R.k.T → Bool} {v : Value}
    (hx : ESat cx g.rt V Fp w (.sub r hv (p.at e)) v) (hr : g.rt r = some (some R)) (hhv : R.hv = hv) (hL : lens R.k R.m p = some ⟨.ptr T el, .ow m, get, put, ok⟩) (hok : ok e R.x = true) (hq : q.at e = [.ad]) :
    ESat cx g.rt V Fp w (.loc r R.hv (Path.at (p ++ q) e)) v := by
  obtain ⟨R0, h2, h3⟩ := hx
  rw [hr] at h2
  obtain rfl := Option.some.inj h2
  have hg : gok R.k R.m R.x (p.at e) = true := by rw [← gok_lens e (lens_is _ _ _ _ hL)]; exact hok
  obtain ⟨b, o', hb, h4, h5⟩ := (h3 R rfl).2 hhv hg
  obtain ⟨Fo, c, h6, h7, h8⟩ := h.comp hr e hL hok
  obtain ⟨b', C, Fe, k3, k4, k5, k6⟩ := h6
  have hv' : v = .pointer (some ⟨b', 0, none⟩) := by
    have := (h8 b o' h4).1 0 _ (by rw [k3]; rfl)
    rw [Nat.add_zero, h5] at this
    exact Option.some.inj this
  rw [hv']
  refine esat_loc hr ?_
  rw [Path.at_append, h7, h4, hq, k3]
  simp [adr, k5, adr_nil]

/-! ### A new root -/
theorem Pre.fresh (h : Pre cx g a w V Fp) {r : Nat} (hr : g.rt r = none) {k : Kt} {m : Mk} {x : k.T} {F : List Nat} {v : Value} {cs : List Value} {w' : World} (hos : w'.os = w.os) (htape : w'.tape = w.tape) (hout : w'.output = w.output)
    (hsz : w.heap.size ≤ w'.heap.size) (hfr : ∀ b, b < w.heap.size → w'.heap[b]? = w.heap[b]?) (hF : ∀ b ∈ F, w.heap.size ≤ b) (hnd : F.Nodup) (hsh : Shows k v cs) (hz : ∀ Sh', Kp w (cx.Sh Fp) w' Sh' → Rz w' Sh' k m F x cs)
    {d : Option Tmp} (hd : ∀ t, d = some t → cx.T t) : GSat cx (g.put d (one (.own r)) (upd g.rt r (some (some ⟨k, m, 0, x⟩)))) (a.put d v) w' := by
  have hFr : Fp r = [] := h.mem.none r (by rw [hr]; simp)
  refine GSat.step (V' := upd V r v) (Fp' := upd Fp r F) (A := fun s => s = r) h.defers h.size h.mem h.ents
    ⟨hos, htape, hout, hsz, fun b hb _ => hfr b hb, fun s hs => ⟨upd_ne _ _ hs, upd_ne _ _ hs, upd_ne _ _ hs⟩, fun s hs b hb => by subst hs; rw [upd_same] at hb; exact .inl (hF b hb),
      fun s hs => by subst hs; rw [upd_same]; exact hnd, fun s s' hs hs' hne => absurd (hs.trans hs'.symm) hne, fun s hs hn => by subst hs; rw [upd_same] at hn; exact absurd rfl (hn _),
      fun s R hs hR hK => by
        subst hs
        rw [upd_same] at hR
        obtain rfl := Option.some.inj (Option.some.inj hR)
        exact ⟨cs, by rw [upd_same]; exact hsh, by rw [upd_same]; exact hz _ hK⟩,
      fun s hs => by subst hs; rw [hr]; trivial⟩ hd fun i ent hi => ?_
  unfold one at hi
  split at hi
  · rename_i h0; subst h0
    obtain rfl := Option.some.inj hi
    exact ⟨v, rfl, _, upd_same _ _ _, fun _ => (upd_same _ _ _).symm⟩
  · cases hi

theorem heap_alloc_new' (w : World) (ob : Obj) : (w.alloc ob).heap[w.heap.size]? = some ob := by
  show (w.heap.push ob)[w.heap.size]? = _
  rw [Array.getElem?_push, if_pos rfl]

/-- box: a variable of its own. -/
theorem op_box (h : Pre cx g a w V Fp) {T : TypeId} {x : Operand} (ho : o.op = .box T x) {k : Kt} {y : k.T} (hx : ESat cx g.rt V Fp w (.val k y) (a.eval x)) {r : Nat} (hr : g.rt r = none) (hd : ∀ t, o.dst = some t → cx.T t) :
    o.wp P a w (fun a' w' => GSat cx (g.put o.dst (one (.own r)) (upd g.rt r (some (some ⟨.ptr T k, .ow .sh, 0, y⟩)))) a' w') Q := by
  obtain ⟨cs, h1, h2⟩ := hx
  have hc : (a.eval x).cells = cs.toArray := by
    unfold Shows at h1
    split at h1
    · rw [h1]; rfl
    · have h3 := h2
      rw [h1] at h3
      have := Rz_one _ _ _ _ _ _ _ h3 (a.eval x) (List.mem_singleton_self _)
      rw [h1]
      cases hv : a.eval x <;> rw [hv] at this <;> first | rfl | (simp [Value.oneCell'] at this; done)
  refine wp_val (v := .pointer (some ⟨w.heap.size, 0, none⟩)) (w' := w.alloc (.cells cs.toArray T)) (by simp [execOp, ho, Instr.box, newVar, newRow, hc]) ?_
  refine h.fresh hr (v := .pointer (some ⟨w.heap.size, 0, none⟩)) (w' := w.alloc (.cells cs.toArray T)) (k := .ptr T k) (x := y) (F := [w.heap.size]) (cs := [.pointer (some ⟨w.heap.size, 0, none⟩)]) rfl rfl rfl (by simp) (fun b hb => RowKit.Below.heap_alloc _ _ _ hb) (by simp) (by simp) (by simp [Shows, Kt.isAgg]) (fun Sh' hK => ?_) hd
  exact ⟨w.heap.size, cs.toArray, [], rfl, rfl, heap_alloc_new' _ _, Rz_keep hK _ _ _ _ _ (by intro b hb; cases hb) h2⟩

/-! ### Zero values -/
/-- The mask of a zero value: nil slices are owned. -/
def zm : Kt → Mk
  | .pair a b => if (zm a).free && (zm b).free then .sh else .pr (zm a) (zm b)
  | .arr _ e => if (zm e).free then .sh else .ow (zm e)
  | .sl _ e => .ow (zm e)
  | .ifc _ _ => .ow .sh
  | .win s => zm s
  | .opt b s => zm s
  | .map _ _ => .ow .sh
  | _ => .sh
/-- The cells of a zero value of a kind. -/
def zOk : Kt → List Value → Bool
  | .int k, cs => match cs with
    | [.int k' n] => k == k' && n == 0
    | _ => false
  | .bool, cs => match cs with
    | [.bool b] => !b
    | _ => false
  | .str, cs => match cs with
    | [.string s] => s.data.toList.isEmpty
    | _ => false
  | .unit, cs => cs.isEmpty
  | .pair a b, cs => zOk a (cs.take a.size) && zOk b (cs.drop a.size)
  | .arr n e, cs => decide (cs.length = n * e.size) && (List.range n).all fun i => zOk e ((cs.drop (i * e.size)).take e.size)
  | .sl _ _, cs => match cs with
    | [.slice none 0 0] => true
    | _ => false
  | .ptr _ _, _ => false
  | .unk, cs => match cs with
    | [v] => v.oneCell'
    | _ => false
  | .fn _ _, _ => false
  | .bld _ _, _ => false
  | .ifc _ _, cs => match cs with
    | [.nilIface] => true
    | _ => false
  | .fnv, cs => match cs with
    | [.nilFunc] => true
    | _ => false
  | .map _ _, cs => match cs with
    | [.map none] => true
    | _ => false
  | .win s, cs => (match cs with
    | [.slice none 0 0] => true
    | _ => false) && zOk s cs
  | .opt false s, cs => zOk s cs
  | .opt true k, cs => (match cs with
    | [.pointer none] => true
    | _ => false) && decide (1 = k.size)
theorem zm_ho : ∀ k : Kt, zm k ≠ .ho
  | .pair a b => by simp only [zm]; split <;> simp
  | .arr _ e => by simp only [zm]; split <;> simp
  | .sl _ _ => by simp [zm]
  | .ifc _ _ => by simp [zm]
  | .win s => by simp only [zm]; exact zm_ho s
  | .opt b s => by simp only [zm]; exact zm_ho s
  | .int _ => by simp [zm]
  | .bool => by simp [zm]
  | .str => by simp [zm]
  | .unit => by simp [zm]
  | .ptr _ _ => by simp [zm]
  | .unk => by simp [zm]
  | .fn _ _ => by simp [zm]
  | .bld _ _ => by simp [zm]
  | .fnv => by simp [zm]
  | .map _ _ => by simp [zm]

theorem RzL.rep {α : Type} {R : List Nat → α → List Value → Prop} {x : α} {c : List Value} (h : R [] x c) : ∀ n, RzL R [] (List.replicate n x) (List.replicate n c).flatten
  | 0 => .nil
  | n + 1 => by
    have := RzL.cons (F := []) (Fs := []) h (RzL.rep h n)
    simpa [List.replicate_succ] using this

theorem Rz_zero (w : World) (Sh : Nat → Prop) : ∀ (k : Kt) (cs : List Value), zOk k cs = true → Rz w Sh k (zm k) [] k.dflt cs
  | .int i, cs, h => by
    unfold zOk at h
    split at h <;> try (cases h; done)
    simp only [Bool.and_eq_true, beq_iff_eq] at h
    obtain ⟨rfl, rfl⟩ := h
    exact ⟨rfl, .inr ⟨by simp [zm], rfl⟩⟩
  | .bool, cs, h => by
    unfold zOk at h
    split at h <;> try (cases h; done)
    rename_i b
    cases b
    · exact ⟨rfl, .inr ⟨by simp [zm], rfl⟩⟩
    · cases h
  | .str, cs, h => by
    unfold zOk at h
    split at h <;> try (cases h; done)
    rename_i s
    have : s = ByteArray.empty := ByteArray.ext (Array.toList_inj.1 (List.isEmpty_iff.1 h))
    subst this; exact ⟨rfl, .inr ⟨by simp [zm], rfl⟩⟩
  | .unit, cs, h => by
    unfold zOk at h
    exact ⟨rfl, List.isEmpty_iff.1 h⟩
  | .pair a b, cs, h => by
    unfold zOk at h
    rw [Bool.and_eq_true] at h
    have h1 := Rz_zero w Sh a _ h.1
    have h2 := Rz_zero w Sh b _ h.2
    simp only [zm]
    split
    · rename_i hf
      rw [Bool.and_eq_true] at hf
      exact ⟨[], [], _, _, rfl, (List.take_append_drop _ _).symm, (Rz_free _ _ _ _ _ hf.1 h1).2, (Rz_free _ _ _ _ _ hf.2 h2).2⟩
    · exact ⟨[], [], _, _, rfl, (List.take_append_drop _ _).symm, h1, h2⟩
  | .arr n e, cs, h => by
    unfold zOk at h
    simp only [Bool.and_eq_true, decide_eq_true_eq, List.all_eq_true, List.mem_range] at h
    obtain ⟨hl, h⟩ := h
    have key : ∀ m : Mk, (∀ i, i < n → Rz w Sh e m [] e.dflt ((cs.drop (i * e.size)).take e.size)) → RzL (Rz w Sh e m) [] (List.replicate n e.dflt) cs := by
      intro m hm
      have : ∀ j, j ≤ n → RzL (Rz w Sh e m) [] (List.replicate j e.dflt) (cs.take (j * e.size)) := by
        intro j
        induction j with
        | zero => intro _; simpa using RzL.nil
        | succ j ih =>
          intro hj
          have := (ih (by omega)).append (RzL.single (hm j (by omega)))
          rw [Nat.add_mul, Nat.one_mul, List.take_add, List.replicate_succ']
          simpa using this
      have := this n (Nat.le_refl _)
      rwa [List.take_of_length_le (by omega)] at this
    simp only [zm]
    split
    · rename_i hf
      exact ⟨by simp [Kt.dflt], key .sh fun i hi => (Rz_free _ _ _ _ _ hf (Rz_zero w Sh e _ (h i hi))).2⟩
    · exact ⟨by simp [Kt.dflt], key _ fun i hi => Rz_zero w Sh e _ (h i hi)⟩
  | .sl T e, cs, h => by
    unfold zOk at h
    split at h <;> try (cases h; done)
    exact .inl ⟨rfl, rfl, rfl⟩
  | .ptr T e, cs, h => by cases h
  | .unk, cs, h => by
    unfold zOk at h
    split at h <;> try (cases h; done)
    exact ⟨rfl, rfl, fun u hu => by rw [List.mem_singleton.1 hu]; exact h⟩
  | .fn f e, cs, h => by cases h
  | .bld T e, cs, h => by cases h
  | .ifc t e, cs, h => by
    unfold zOk at h
    split at h <;> try (cases h; done)
    exact .inr ⟨by simp [zm], .inl ⟨rfl, rfl, rfl⟩⟩
  | .fnv, cs, h => by
    unfold zOk at h
    split at h <;> try (cases h; done)
    exact ⟨rfl, .inr ⟨by simp [zm], rfl⟩⟩
  | .map a b, cs, h => by
    unfold zOk at h
    split at h <;> try (cases h; done)
    exact .inl ⟨rfl, rfl, rfl⟩
  | .win k, cs, h => by
    unfold zOk at h
    rw [Bool.and_eq_true] at h
    obtain ⟨h1, h2⟩ := h
    split at h1 <;> try (cases h1; done)
    exact .inr ⟨zm_ho k, none, 0, 0, rfl, Nat.le_refl _, Rz_zero w Sh k _ h2⟩
  | .opt false k, cs, h => by
    unfold zOk at h
    exact .inr ⟨_, rfl, Rz_zero w Sh k cs h⟩
  | .opt true k, cs, h => by
    unfold zOk at h
    rw [Bool.and_eq_true] at h
    obtain ⟨h1, h2⟩ := h
    split at h1 <;> try (cases h1; done)
    exact .inl ⟨rfl, rfl, by have : 1 = k.size := by simpa using h2
                             exact this, by intro u hu; rw [List.mem_singleton.1 hu]; rfl, fun _ => rfl⟩

/-- Equality of plain values. -/
def vEq : Value → Value → Bool
  | .int k n, .int k' n' => k == k' && n == n'
  | .bool b, .bool b' => b == b'
  | .string s, .string s' => s.data.toList == s'.data.toList
  | .slice none l c, .slice none l' c' => l == l' && c == c'
  | _, _ => false
theorem vEq_spec {u v : Value} (h : vEq u v = true) : u = v := by
  unfold vEq at h
  split at h
  · simp only [Bool.and_eq_true, beq_iff_eq] at h; rw [h.1, h.2]
  · rw [eq_of_beq h]
  · have := eq_of_beq h
    have := Array.toList_inj.1 this
    congr 1
    exact ByteArray.ext this
  · simp only [Bool.and_eq_true, beq_iff_eq] at h; rw [h.1, h.2]
  · cases h
def vsEq : List Value → List Value → Bool
  | [], [] => true
  | u :: us, v :: vs => vEq u v && vsEq us vs
  | _, _ => false
theorem vsEq_spec : ∀ {us vs : List Value}, vsEq us vs = true → us = vs
  | [], [], _ => rfl
  | u :: us, v :: vs, h => by
    simp only [vsEq, Bool.and_eq_true] at h
    rw [vEq_spec h.1, vsEq_spec h.2]
  | [], _ :: _, h => by cases h
  | _ :: _, [], h => by cases h

/-- The zero value of a type is that of a kind. -/
def zeroOk (P : Program) (t : TypeId) (k : Kt) : Bool := match (P.info? t).bind (·.zero) with
  | some z => zOk k z.cells.toList
  | _ => false
theorem zeroOk_spec {t : TypeId} {k : Kt} (h : zeroOk P t k = true) : ∃ i z cs, P.info? t = some i ∧ i.zero = some z ∧ zOk k cs = true ∧ z.cells = cs.toArray := by
  unfold zeroOk at h
  split at h
  · rename_i z hz
    obtain ⟨i, h1, h2⟩ := Option.bind_eq_some_iff.1 hz
    exact ⟨i, z, _, h1, h2, h, by simp⟩
  · cases h

/-- alloc: a variable of its own, zero. -/
theorem op_alloc (h : Pre cx g a w V Fp) {T : TypeId} (ho : o.op = .alloc T) {k : Kt} (hz : zeroOk P T k = true) {r : Nat} (hr : g.rt r = none) (hd : ∀ t, o.dst = some t → cx.T t) :
    o.wp P a w (fun a' w' => GSat cx (g.put o.dst (one (.own r)) (upd g.rt r (some (some ⟨.ptr T k, .ow (zm k), 0, k.dflt⟩)))) a' w') Q := by
  obtain ⟨i, z, cs, h1, h2, h3, h4⟩ := zeroOk_spec hz
  refine wp_val (v := .pointer (some ⟨w.heap.size, 0, none⟩)) (w' := w.alloc (.cells cs.toArray T)) (by simp [execOp, ho, Instr.alloc, zeroValue, typeInfo, h1, h2, newVar, newRow, h4]) ?_
  refine h.fresh hr (v := .pointer (some ⟨w.heap.size, 0, none⟩)) (w' := w.alloc (.cells cs.toArray T)) (k := .ptr T k) (x := k.dflt) (F := [w.heap.size]) (cs := [.pointer (some ⟨w.heap.size, 0, none⟩)]) rfl rfl rfl (by simp) (fun b hb => RowKit.Below.heap_alloc _ _ _ hb) (by simp) (by simp) (by simp [Shows, Kt.isAgg]) (fun Sh' hK => ?_) hd
  exact ⟨w.heap.size, cs.toArray, [], rfl, rfl, heap_alloc_new' _ _, Rz_zero _ _ _ _ h3⟩
end
end Go.Lift

namespace Go.Lift
set_option linter.unusedVariables false
set_option linter.unusedSimpArgs false

theorem foldl_put (pre c old rest : List Value) (h : c.length = old.length) :
    (c.zipIdx 0).foldl (fun (cs : Array Value) (x : Value × Nat) => cs.setIfInBounds (pre.length + x.2) x.1) (pre ++ (old ++ rest)).toArray = (pre ++ (c ++ rest)).toArray := by
  obtain ⟨h1, h2⟩ := Great.foldl_set pre.length c 0 (pre ++ (old ++ rest)).toArray
  apply Array.ext'
  apply List.ext_getElem?
  intro k
  have := h2 k
  rw [← Array.getElem?_toList] at this
  rw [this]
  simp only [Nat.add_zero, List.size_toArray, List.length_append, List.getElem?_toArray]
  by_cases hk : pre.length ≤ k ∧ k < pre.length + c.length
  · rw [if_pos ⟨hk.1, hk.2, by omega⟩, List.getElem?_append_right hk.1, List.getElem?_append_left (by omega)]
  · rw [if_neg (by omega)]
    by_cases hk2 : k < pre.length
    · rw [List.getElem?_append_left hk2, List.getElem?_append_left hk2]
    · rw [List.getElem?_append_right (by omega), List.getElem?_append_right (by omega), List.getElem?_append_right (by omega), List.getElem?_append_right (by omega), h]

/-- Parts side by side. -/
theorem fill_cat {s : Nat} : ∀ (vs : List Value) (cs : List (List Value)) (i0 : Nat) (pre old : List Value), vs.map (fun v => v.cells.toList) = cs → (∀ c ∈ cs, c.length = s) → pre.length = i0 * s → old.length = vs.length * s →
    Instr.fill (fun i => some (i * s, s)) (pre ++ old).toArray ((vs.zipIdx i0).map fun x => (x.2, x.1)) = some (pre ++ cs.flatten).toArray
  | [], cs, i0, pre, old, hcs, hs, hp, ho => by
    subst hcs
    simp only [List.length_nil, Nat.zero_mul] at ho
    rw [List.length_eq_zero_iff.1 ho]
    simp [Instr.fill]
  | v :: vs, cs, i0, pre, old, hcs, hs, hp, ho => by
    subst hcs
    have hv : v.cells.toList.length = s := hs _ (by simp)
    have hv' : v.cells.size = s := by simpa using hv
    have ho' : old.length = s + vs.length * s := by rw [ho]; simp only [List.length_cons, Nat.add_mul, Nat.one_mul]; omega
    have e1 : old = old.take s ++ old.drop s := (List.take_append_drop _ _).symm
    have hl : (old.take s).length = s := by rw [List.length_take]; omega
    simp only [List.zipIdx_cons, List.map_cons]
    unfold Instr.fill
    simp only [hv']
    rw [if_neg (show ¬ ((decide (s ≠ s) || decide (i0 * s + s > (pre ++ old).toArray.size)) = true) by
      simp only [Bool.or_eq_true, decide_eq_true_eq]
      rintro (h | h)
      · exact h rfl
      · simp only [List.size_toArray, List.length_append, hp, ho'] at h; omega)]
    have e2 : v.cells.zipIdx.foldl (fun cs (x : Value × Nat) => match x with | (c, j) => cs.setIfInBounds (i0 * s + j) c) (pre ++ old).toArray = (pre ++ (v.cells.toList ++ old.drop s)).toArray := by
      rw [← Array.foldl_toList, Array.toList_zipIdx, ← hp]
      have := foldl_put pre v.cells.toList (old.take s) (old.drop s) (by rw [hv, hl])
      rw [← e1] at this
      exact this
    rw [e2, ← List.append_assoc]
    have := fill_cat vs _ (i0 + 1) (pre ++ v.cells.toList) (old.drop s) rfl (fun c hc => hs c (by simp only [List.map_cons, List.mem_cons]; exact .inr hc)) (by rw [List.length_append, hp, hv, Nat.add_mul, Nat.one_mul]) (by rw [List.length_drop, ho']; omega)
    rw [this]
    simp


section
variable {P : Program} {cx : Cx} {g : G} {a : Act} {w : World} {V : Nat → Value} {Fp : Nat → List Nat} {o : Oper} {Q : Exit → Act → World → Prop}

/-- The cells of a value that is read. -/
theorem esat_cells {rt : Nat → Option GR} {k : Kt} {y : k.T} {v : Value} (h : ESat cx rt V Fp w (.val k y) v) : Rz w (cx.Sh Fp) k .sh [] y v.cells.toList ∧ Shows k v v.cells.toList := by
  obtain ⟨cs, h1, h2⟩ := h
  have : v.cells.toList = cs := by
    have h1' := h1
    unfold Shows at h1
    split at h1
    · rw [h1]; rfl
    · have h3 := h2
      rw [h1] at h3
      have := Rz_one _ _ _ _ _ _ _ h3 v (List.mem_singleton_self _)
      rw [h1]
      cases hv : v <;> rw [hv] at this <;> first | rfl | (simp [Value.oneCell'] at this; done)
  rw [this]
  exact ⟨h2, h1⟩

/-- Values side by side. -/
inductive EsL (cx : Cx) (rt : Nat → Option GR) (V : Nat → Value) (Fp : Nat → List Nat) (w : World) (k : Kt) : List k.T → List Value → Prop
  | nil : EsL cx rt V Fp w k [] []
  | cons {y : k.T} {ys : List k.T} {v : Value} {vs : List Value} (h : ESat cx rt V Fp w (.val k y) v) (t : EsL cx rt V Fp w k ys vs) : EsL cx rt V Fp w k (y :: ys) (v :: vs)
theorem EsL.len {rt : Nat → Option GR} {k : Kt} {ys : List k.T} {vs : List Value} (h : EsL cx rt V Fp w k ys vs) : ys.length = vs.length := by
  induction h with
  | nil => rfl
  | cons h t ih => simp [ih]
theorem EsL.rz {rt : Nat → Option GR} {k : Kt} {ys : List k.T} {vs : List Value} (h : EsL cx rt V Fp w k ys vs) : RzL (Rz w (cx.Sh Fp) k .sh) [] ys (vs.map fun v => v.cells.toList).flatten := by
  induction h with
  | nil => exact .nil
  | cons h t ih =>
    have := RzL.cons (F := []) (Fs := []) (esat_cells h).1 ih
    simpa using this
theorem EsL.size {rt : Nat → Option GR} {k : Kt} {ys : List k.T} {vs : List Value} (h : EsL cx rt V Fp w k ys vs) : ∀ c ∈ vs.map (fun v => v.cells.toList), c.length = k.size := by
  induction h with
  | nil => intro c hc; cases hc
  | cons h t ih =>
    intro c hc
    rcases List.mem_cons.1 hc with rfl | hc
    · exact Rz_len _ _ _ _ _ _ _ (esat_cells h).1
    · exact ih c hc

theorem run_buildSlice' {t T : TypeId} {k : Kt} (ht : sliceOk P t T k = true) (hz : ((P.info? T).bind (·.zero)).isSome = true) (vs : List Value) (hs : ∀ c ∈ vs.map (fun v => v.cells.toList), c.length = k.size) (hsmall : vs.length * k.size ≤ 16777216) (w : World) :
    (Instr.buildSlice t vs.length ((vs.zipIdx 0).map fun x => (x.2, x.1)).toArray).run P w = .ok (.slice (some ⟨w.heap.size, 0, none⟩) vs.length vs.length) (w.alloc (.cells (vs.map fun v => v.cells.toList).flatten.toArray T)) := by
  obtain ⟨hu, hk⟩ := sliceOk_spec ht
  obtain ⟨i, h4, h5⟩ := Option.map_eq_some_iff.1 hk
  rw [h4] at hz
  obtain ⟨z, hz⟩ := Option.isSome_iff_exists.1 hz
  have hz : i.zero = some z := hz
  by_cases hpos : vs.length * k.size = 0
  · have hf := fill_cat (s := k.size) vs _ 0 [] [] rfl hs (by simp) (by rw [hpos]; rfl)
    simp only [List.nil_append] at hf
    simp [Instr.buildSlice, run_underlying hu, sizeOf, typeInfo, h4, h5, hpos, Array.range_zero', hf, newRow]
  · refine run_buildSlice w t T vs.length _ _ i z hu h4 hz (by rw [h5]; omega) (by rw [h5]; exact hpos) ?_
    rw [h5]
    have hf := fill_cat (s := k.size) vs _ 0 [] ((Array.range (vs.length * k.size)).map (z.cells[· % z.cells.size]!)).toList rfl hs (by simp) (by simp)
    simp only [List.nil_append, Array.toArray_toList] at hf
    simpa using hf

/-- buildSlice: a slice of its own. -/
theorem op_buildSlice (h : Pre cx g a w V Fp) {t T : TypeId} {k : Kt} {parts : Array (Nat × Operand)} {n : Nat} {xs : List Operand} (ho : o.op = .buildSlice t n parts) (hp : parts = ((xs.zipIdx 0).map fun x => (x.2, x.1)).toArray) (hn : n = xs.length)
    (ht : sliceOk P t T k = true) (hz : ((P.info? T).bind (·.zero)).isSome = true) {ys : List k.T} (hx : EsL cx g.rt V Fp w k ys (xs.map a.eval)) (hsmall : xs.length * (k.size + 1) ≤ 16777216) {r : Nat} (hr : g.rt r = none) (hd : ∀ t, o.dst = some t → cx.T t) :
    o.wp P a w (fun a' w' => GSat cx (g.put o.dst (one (.own r)) (upd g.rt r (some (some ⟨.sl T k, .ow .sh, 0, ys⟩)))) a' w') Q := by
  have hlen := hx.len
  rw [List.length_map] at hlen
  have hrun := run_buildSlice' (P := P) ht hz (xs.map a.eval) hx.size (by rw [List.length_map]; rw [Nat.mul_add] at hsmall; omega) w
  rw [List.length_map] at hrun
  have he : (parts.map fun (i, x) => (i, a.eval x)) = (((xs.map a.eval).zipIdx 0).map fun x => (x.2, x.1)).toArray := by
    rw [hp]
    apply Array.ext'
    simp [List.zipIdx_map]
  refine wp_val (v := .slice (some ⟨w.heap.size, 0, none⟩) xs.length xs.length) (w' := w.alloc (.cells ((xs.map a.eval).map fun v => v.cells.toList).flatten.toArray T)) ?_ ?_
  · simp only [execOp, ho, hn]
    rw [he]
    simp [hrun]
  · have hrz := hx.rz
    refine h.fresh hr (k := .sl T k) (m := .ow .sh) (x := ys) (F := [w.heap.size]) (v := .slice (some ⟨w.heap.size, 0, none⟩) xs.length xs.length) (w' := w.alloc (.cells ((xs.map a.eval).map fun v => v.cells.toList).flatten.toArray T))
      (cs := [.slice (some ⟨w.heap.size, 0, none⟩) xs.length xs.length]) rfl rfl rfl (by simp) (fun b hb => RowKit.Below.heap_alloc _ _ _ hb) (by simp) (by simp) (by simp [Shows, Kt.isAgg]) (fun Sh' hK => ?_) hd
    have hl := hrz.len (Rz_len _ _ _ _)
    refine .inr ⟨w.heap.size, xs.length, _, [], by rw [hlen], rfl, heap_alloc_new' _ _, ?_, by rw [hlen]; rw [Nat.mul_add] at hsmall; exact ⟨Nat.le_refl _, by omega⟩, ?_⟩
    · simp only [List.size_toArray]
      rw [hl, hlen]
    · have : List.take (List.length ys * k.size) (List.map (fun v => v.cells.toList) (List.map a.eval xs)).flatten = (List.map (fun v => v.cells.toList) (List.map a.eval xs)).flatten := List.take_of_length_le (by rw [hl]; exact Nat.le_refl _)
      simp only [this]
      exact hrz.imp fun F' x c hF hr => by
        have h0 : F' = [] := nil_of_sub rfl hF
        subst h0
        exact Rz_keep hK _ _ _ _ _ (by intro b hb; cases hb) hr
end
end Go.Lift

namespace Go.Lift
set_option linter.unusedVariables false
set_option linter.unusedSimpArgs false

theorem setCells_row {P : Program} (w : World) (g o t : Nat) (vs : List Value) (cur : Array Value) (hg : w.heap[g]? = some (.cells cur t (0, 0))) (hl : o + vs.length ≤ cur.size) (h1 : ∀ v ∈ vs, v.oneCell' = true) :
    w.setCells g o vs = w.setRow g (cur.toList.take o ++ vs ++ cur.toList.drop (o + vs.length)).toArray := by
  have e1 := run_storeCells_at (P := P) g o t vs 0 cur w hg (by simpa using hl) h1
  have e2 := run_storeCells_cells (P := P) g o vs 0 w (fun j hj => by rw [cell_of_block hg]; simp; omega) (fun j hj => by simp [World.frozen?, hg]) h1
  rw [e2] at e1
  simp only [Nat.add_zero] at e1
  injection e1

theorem setRow_other (w : World) (g : Nat) (cs : Array Value) {b : Nat} (h : b ≠ g) : (w.setRow g cs).heap[b]? = w.heap[b]? := by
  simp only [World.setRow, Array.getElem?_modify]
  rw [if_neg (by omega)]

theorem nextcap_le (n c : Nat) (h : c < n) : Builtin.nextslicecap n c ≤ 2 * n := by
  unfold Builtin.nextslicecap
  split
  · omega
  · split
    · omega
    · have : ∀ r c, c < 2 * n → n ≤ 2 * n → Builtin.growBy n r c ≤ 2 * n + 0 ∨ True := fun _ _ _ _ => .inr trivial
      have grow : ∀ r c, 256 ≤ c → c < n → Builtin.growBy n r c ≤ 2 * n := by
        intro r
        induction r with
        | zero => intro c h1 h2; simp only [Builtin.growBy]; omega
        | succ r ih =>
          intro c h1 h2
          simp only [Builtin.growBy]
          rw [if_neg (by omega)]
          by_cases h3 : c + (c + 768) / 4 < n
          · exact ih _ (by omega) h3
          · have : Builtin.growBy n r (c + (c + 768) / 4) = c + (c + 768) / 4 := by
              cases r with
              | zero => rfl
              | succ r => simp only [Builtin.growBy]; rw [if_pos (by omega)]
            rw [this]; omega
      exact grow 4 c (by omega) h

/-- append: to an owned slice, of parts that own nothing. -/
theorem run_append {P : Program} {w : World} {Sh : Nat → Prop} {t t2 ty T : TypeId} {e : Kt} {m : Mk} {F : List Nat} {xs ys : List e.T} {v y : Value} {news : List Value} {i : TypeInfo} {z : Value}
    (hu : P.underlying t = some (.slice T)) (hi : P.info? T = some i) (hsz : i.size = e.size) (hz : i.zero = some z) (hzs : z.cells.size = e.size) (hv : Rz w Sh (.sl T e) (.ow m) F xs [v]) (hnd : F.Nodup) {Fn : List Nat}
    (hsrc : Src P e.size t2 y ys.length news w) (hnews : RzL (Rz w Sh e m) Fn ys news) (hFn : (F ++ Fn).Nodup) (hb : (xs.length + ys.length) * i.bytes ≤ 140737488355328) (h63 : xs.length + ys.length ≤ 4611686018427387904) :
    ∃ v' w' F', (Builtin.append_ #[t, t2] ty #[v, y]).run P w = .ok v' w' ∧ w'.os = w.os ∧ w'.tape = w.tape ∧ w'.output = w.output ∧ w.heap.size ≤ w'.heap.size ∧ (∀ b, b < w.heap.size → b ∉ F → w'.heap[b]? = w.heap[b]?) ∧
      (∀ b ∈ F', b ∈ F ∨ b ∈ Fn ∨ w.heap.size ≤ b) ∧ F'.Nodup ∧ ∀ Sh', Kp w Sh w' Sh' → (∀ b ∈ Fn, b < w.heap.size ∧ b ∉ F) → Rz w' Sh' (.sl T e) (.ow m) F' (xs ++ ys) [v'] := by
  have hnl := hsrc.newsLen
  -- a new row
  have grows : ∀ (base : Option Addr) (sCap : Nat) (olds : List Value) (Fe : List Nat), v = .slice base xs.length sCap → (Builtin.firstCells i.size xs.length (.slice base xs.length sCap)).run P w.drew = .ok olds.toArray w.drew →
      sCap < xs.length + ys.length → RzL (Rz w Sh e m) Fe xs olds → (∀ b ∈ Fe, b ∈ F) → Fe.Nodup → (Fe ++ Fn).Nodup →
      ∃ v' w' F', (Builtin.append_ #[t, t2] ty #[v, y]).run P w = .ok v' w' ∧ w'.os = w.os ∧ w'.tape = w.tape ∧ w'.output = w.output ∧ w.heap.size ≤ w'.heap.size ∧ (∀ b, b < w.heap.size → b ∉ F → w'.heap[b]? = w.heap[b]?) ∧
      (∀ b ∈ F', b ∈ F ∨ b ∈ Fn ∨ w.heap.size ≤ b) ∧ F'.Nodup ∧ ∀ Sh', Kp w Sh w' Sh' → (∀ b ∈ Fn, b < w.heap.size ∧ b ∉ F) → Rz w' Sh' (.sl T e) (.ow m) F' (xs ++ ys) [v'] := by
    intro base sCap olds Fe hv0 hold hlt hrz hFe hFend hFen
    have hrun := run_append_grow_src (P := P) w t t2 ty T i z hu hi hz base xs.length sCap olds hold y ys.length news (by rw [hsz]; exact hsrc) hlt (by omega) (by
      have := nextcap_le _ _ hlt
      have := Nat.mul_le_mul_right i.bytes this
      have e1 : 2 * (xs.length + ys.length) * i.bytes = 2 * ((xs.length + ys.length) * i.bytes) := Nat.mul_assoc ..
      omega)
    have hge := grownCap_ge w (xs.length + ys.length) sCap T
    have hlo := hrz.len (Rz_len _ _ _ _)
    have hln := hnews.len (Rz_len _ _ _ _)
    have hltF : ∀ b ∈ Fe ++ Fn, b < w.heap.size := by
      intro b hb
      rcases List.mem_append.1 hb with hb | hb
      · obtain ⟨F', x, c, hb', hr⟩ := hrz.mem hb
        exact Rz_lt _ _ _ _ _ _ _ hr b hb'
      · obtain ⟨F', x, c, hb', hr⟩ := hnews.mem hb
        exact Rz_lt _ _ _ _ _ _ _ hr b hb'
    generalize hob : Obj.cells ((olds ++ news).toArray ++ Builtin.zeroCells z.cells (grownCap w (xs.length + ys.length) sCap T - (xs.length + ys.length))) T = ob at hrun
    refine ⟨.slice (some ⟨w.heap.size, 0, none⟩) (xs.length + ys.length) (grownCap w (xs.length + ys.length) sCap T), w.drew.alloc ob, w.heap.size :: (Fe ++ Fn), by rw [hv0]; exact hrun, rfl, rfl, rfl, (show w.heap.size ≤ (w.heap.push ob).size by simp), fun b hb _ => RowKit.Below.heap_alloc w.drew _ b hb, fun b hb => ?_, List.nodup_cons.2 ⟨fun h => Nat.lt_irrefl _ (hltF _ h), hFen⟩, fun Sh' hK hFs => ?_⟩
    · rcases List.mem_cons.1 hb with rfl | hb
      · exact .inr (.inr (Nat.le_refl _))
      · rcases List.mem_append.1 hb with hb | hb
        · exact .inl (hFe b hb)
        · exact .inr (.inl hb)
    · refine .inr ⟨w.heap.size, grownCap w (xs.length + ys.length) sCap T, _, Fe ++ Fn, by rw [List.length_append], rfl, by rw [← hob]; exact heap_alloc_new' w.drew _, ?_, by rw [List.length_append]; exact ⟨hge, grownCap_le_maxLen w _ _ _ (by unfold maxLen; omega)⟩, ?_⟩
      · simp only [Array.size_append, List.size_toArray, List.length_append, size_zeroCells, hlo, hln, hzs]
        rw [Nat.sub_mul]
        have := Nat.mul_le_mul_right e.size hge
        rw [Nat.add_mul] at this ⊢
        omega
      · have hl : (olds ++ news).length = (xs ++ ys).length * e.size := by rw [List.length_append, List.length_append, hlo, hln, Nat.add_mul]
        rw [Array.toList_append, take_len _ _ hl]
        have := hrz.append hnews
        refine this.imp fun F' x c hF hr => Rz_keep hK _ _ _ _ _ (fun b hb => RowKit.Below.heap_alloc w.drew _ b ?_) hr
        exact hltF b (hF b hb)
  rcases hv with ⟨rfl, rfl, hv⟩ | ⟨g, cap, C, Fe, hv, rfl, hh, hC, hcap, hx⟩
  · have hv : v = .slice none 0 0 := (List.cons.inj hv).1
    by_cases hy : ys.length = 0
    · have hy0 := List.length_eq_zero_iff.1 hy
      subst hy0
      cases hnews
      refine ⟨v, w, [], ?_, rfl, rfl, rfl, Nat.le_refl _, fun _ _ _ => rfl, by simp, by simp, fun Sh' hK _ => .inl ⟨rfl, rfl, by rw [hv]⟩⟩
      subst hv
      have hc := hsrc.cells
      have hl := hsrc.len
      simp only [List.length_nil] at hc hl
      rcases hsrc.kind with ⟨e', hk⟩ | hk <;> simp [Builtin.append_, run_underlying hu, run_underlying hk, sizeOf, typeInfo, hi, hl, hsz, hc]
    · exact grows none 0 [] [] (by rw [hv]; rfl) (by simp [Builtin.firstCells]) (by simp; omega) .nil (by simp) (by simp) (by simpa using hFn)
  · have hv : v = .slice (some ⟨g, 0, none⟩) xs.length cap := (List.cons.inj hv).1
    have hg0 := (List.nodup_cons.1 hnd).1
    have hFe := (List.nodup_cons.1 hnd).2
    have hlx := hx.len (Rz_len _ _ _ _)
    have hln := hnews.len (Rz_len _ _ _ _)
    have hFeFn : (Fe ++ Fn).Nodup := (List.nodup_cons.1 hFn).2
    have hgFn : g ∉ Fe ++ Fn := (List.nodup_cons.1 hFn).1
    have hcapm := hcap.2
    have hcap := hcap.1
    by_cases hroom : xs.length + ys.length ≤ cap
    · have hfit : xs.length * e.size + news.length ≤ C.size := by
        rw [hC, hln, ← Nat.add_mul]
        exact Nat.mul_le_mul_right _ hroom
      have hrun := run_append_room_src (P := P) w t t2 ty T i hu hi g 0 xs.length cap y ys.length news (by rw [hsz]; exact hsrc) hroom
        (fun j hj => by rw [cell_of_block hh, hsz]; simp; omega) (fun j hj => by simp [World.frozen?, hh])
      rw [hsz, Nat.zero_add, setCells_row (P := P) w g _ T news C hh hfit hsrc.one] at hrun
      generalize hCn : C.toList.take (xs.length * e.size) ++ news ++ C.toList.drop (xs.length * e.size + news.length) = Cn at hrun
      have hw' : (w.setRow g Cn.toArray).heap[g]? = some (.cells Cn.toArray T (0, 0)) := setRow_heap w g C _ T _ hh
      refine ⟨.slice (some ⟨g, 0, none⟩) (xs.length + ys.length) cap, w.setRow g Cn.toArray, g :: (Fe ++ Fn), by rw [hv]; exact hrun, rfl, rfl, rfl, by simp [World.setRow], fun b hb hne => setRow_other _ _ _ (fun h => hne (by rw [h]; exact List.mem_cons_self ..)), fun b hb => ?_, hFn, fun Sh' hK hFs => ?_⟩
      · rcases List.mem_cons.1 hb with rfl | hb
        · exact .inl (List.mem_cons_self ..)
        · rcases List.mem_append.1 hb with hb | hb
          · exact .inl (List.mem_cons_of_mem _ hb)
          · exact .inr (.inl hb)
      · refine .inr ⟨g, cap, Cn.toArray, Fe ++ Fn, by rw [List.length_append], rfl, hw', ?_, by rw [List.length_append]; exact ⟨hroom, hcapm⟩, ?_⟩
        · rw [← hC, ← hCn]
          simp only [List.size_toArray, List.length_append, List.length_take, List.length_drop, Array.length_toList]
          omega
        · have hl : (C.toList.take (xs.length * e.size) ++ news).length = (xs ++ ys).length * e.size := by rw [List.length_append, List.length_append, hlx, hln, Nat.add_mul]
          have ht : Cn.take ((xs ++ ys).length * e.size) = C.toList.take (xs.length * e.size) ++ news := by rw [← hCn, take_len _ _ hl]
          simp only []
          rw [ht]
          refine (hx.append hnews).imp fun F' x c hF hr => Rz_keep hK _ _ _ _ _ (fun b hb => setRow_other _ _ _ (fun h => hgFn (by rw [← h]; exact hF b hb))) hr
    · refine grows (some ⟨g, 0, none⟩) cap _ Fe hv ?_ (by omega) hx (fun b hb => List.mem_cons_of_mem _ hb) hFe hFeFn
      rw [hsz]
      refine run_firstCells_some w.drew e.size xs.length ⟨g, 0, none⟩ _ _ _ hlx fun j u hj => ?_
      rw [Addr.add_lit]
      have := CellsAt_block (n := xs.length * e.size) hh j u hj
      rw [Nat.zero_add] at this ⊢
      exact this
end Go.Lift

namespace Go.Lift
set_option linter.unusedVariables false
set_option linter.unusedSimpArgs false
section
variable {P : Program} {cx : Cx} {g : G} {a : Act} {w : World} {V : Nat → Value} {Fp : Nat → List Nat} {o : Oper} {Q : Exit → Act → World → Prop}

/-- A root is given up, another one comes of it. -/
theorem Pre.renew (h : Pre cx g a w V Fp) {r r' : Nat} {R : GR} (hr : g.rt r = some R) (hr' : g.rt r' = none) {k : Kt} {m : Mk} {x : k.T} {F : List Nat} {v : Value} {cs : List Value} {w' : World} (hos : w'.os = w.os) (htape : w'.tape = w.tape) (hout : w'.output = w.output)
    (hsz : w.heap.size ≤ w'.heap.size) (hfr : ∀ b, b < w.heap.size → b ∉ Fp r → w'.heap[b]? = w.heap[b]?) (hF : ∀ b ∈ F, b ∈ Fp r ∨ w.heap.size ≤ b) (hnd : F.Nodup) (hsh : Shows k v cs) (hz : ∀ Sh', Kp w (cx.Sh Fp) w' Sh' → Rz w' Sh' k m F x cs)
    {d : Option Tmp} (hd : ∀ t, d = some t → cx.T t) : GSat cx (g.put d (one (.own r')) (upd (upd g.rt r (some none)) r' (some (some ⟨k, m, 0, x⟩)))) (a.put d v) w' := by
  have hFr : Fp r' = [] := h.mem.none r' (by rw [hr']; simp)
  have hne : r ≠ r' := fun e => by rw [e, hr'] at hr; cases hr
  refine GSat.step (V' := upd V r' v) (Fp' := upd (upd Fp r []) r' F) (A := fun s => s = r ∨ s = r') h.defers h.size h.mem h.ents
    ⟨hos, htape, hout, hsz, fun b hb hs => hfr b hb (hs r (.inl rfl)), fun s hs => ?_, fun s hs b hb => ?_, fun s hs => ?_, fun s s' hs hs' hne' b hb hb' => ?_, fun s hs hn => ?_, fun s R' hs hR hK => ?_, fun s hs => ?_⟩ hd fun i ent hi => ?_
  · have h1 : s ≠ r := fun e => hs (.inl e)
    have h2 : s ≠ r' := fun e => hs (.inr e)
    exact ⟨by rw [upd_ne _ _ h2, upd_ne _ _ h1], upd_ne _ _ h2, by rw [upd_ne _ _ h2, upd_ne _ _ h1]⟩
  · rcases hs with rfl | rfl
    · rw [upd_ne _ _ hne, upd_same] at hb; cases hb
    · rw [upd_same] at hb
      exact (hF b hb).elim (fun h => .inr ⟨r, .inl rfl, h⟩) .inl
  · rcases hs with rfl | rfl
    · rw [upd_ne _ _ hne, upd_same]; exact List.nodup_nil
    · rw [upd_same]; exact hnd
  · rcases hs with rfl | rfl
    · rw [upd_ne _ _ hne, upd_same] at hb; cases hb
    · rcases hs' with rfl | rfl
      · rw [upd_ne _ _ hne, upd_same] at hb'; cases hb'
      · exact absurd rfl hne'
  · rcases hs with rfl | rfl
    · rw [upd_ne _ _ hne, upd_same]
    · rw [upd_same] at hn; exact absurd rfl (hn _)
  · rcases hs with rfl | rfl
    · rw [upd_ne _ _ hne, upd_same] at hR; cases hR
    · rw [upd_same] at hR
      obtain rfl := Option.some.inj (Option.some.inj hR)
      exact ⟨cs, by rw [upd_same]; exact hsh, by rw [upd_same]; exact hz _ hK⟩
  · rcases hs with rfl | rfl
    · rw [hr, upd_ne _ _ hne, upd_same]
      cases R with
      | none => exact rfl
      | some R => exact .inl rfl
    · rw [hr']; trivial
  · unfold one at hi
    split at hi
    · rename_i h0; subst h0
      obtain rfl := Option.some.inj hi
      exact ⟨v, rfl, _, upd_same _ _ _, fun _ => (upd_same _ _ _).symm⟩
    · cases hi

/-- What an append reads of its second argument: parts that own nothing. -/
def AppSrc (P : Program) (cx : Cx) (Fp : Nat → List Nat) (w : World) (e : Kt) (t2 : TypeId) (y : Value) (ys : List e.T) : Prop :=
  ∃ news, Src P e.size t2 y ys.length news w ∧ RzL (Rz w (cx.Sh Fp) e .sh) [] ys news

def appOk (P : Program) (t T : TypeId) (e : Kt) (bytes : Nat) : Bool := (match P.underlying t with | some (.slice e') => e' == T | _ => false) &&
  (match P.info? T with | some i => i.size == e.size && i.bytes == bytes && (match i.zero with | some z => z.cells.size == e.size | none => false) | none => false)
theorem appOk_spec {t T : TypeId} {e : Kt} {bytes : Nat} (h : appOk P t T e bytes = true) : P.underlying t = some (.slice T) ∧ ∃ i z, P.info? T = some i ∧ i.size = e.size ∧ i.bytes = bytes ∧ i.zero = some z ∧ z.cells.size = e.size := by
  unfold appOk at h
  rw [Bool.and_eq_true] at h
  obtain ⟨h1, h2⟩ := h
  refine ⟨?_, ?_⟩
  · split at h1
    · rename_i e' he; rw [he, eq_of_beq h1]
    · cases h1
  · split at h2
    · rename_i i hi
      simp only [Bool.and_eq_true, beq_iff_eq] at h2
      obtain ⟨⟨h3, h4⟩, h5⟩ := h2
      split at h5
      · rename_i z hz
        exact ⟨i, z, hi, h3, h4, hz, eq_of_beq h5⟩
      · cases h5
    · cases h2

def appFits (n m bytes : Nat) : Bool := decide ((n + m) * bytes ≤ 140737488355328) && decide (n + m ≤ 4611686018427387904)

theorem appCall (ho : ∃ ta x y, o.op = .call { callee := .builtin .append, args := #[x, y], argTypes := ta }) : True := trivial

/-- append: to an owned slice. -/
theorem op_append_own (h : Pre cx g a w V Fp) {t t2 T : TypeId} {x y : Operand} (ho : o.op = .call { callee := .builtin .append, args := #[x, y], argTypes := #[t, t2] }) {r r' : Nat} {e : Kt} {m : Mk} {hv bytes : Nat} {xs ys : List e.T}
    (hx : ESat cx g.rt V Fp w (.own r) (a.eval x)) (hr : g.rt r = some (some ⟨.sl T e, .ow m, hv, xs⟩)) (hm : m.free = true) (hy : AppSrc P cx Fp w e t2 (a.eval y) ys) (ht : appOk P t T e bytes = true) (hfit : appFits xs.length ys.length bytes = true)
    (hr' : g.rt r' = none) (hd : ∀ t, o.dst = some t → cx.T t) :
    o.wp P a w (fun a' w' => GSat cx (g.put o.dst (one (.own r')) (upd (upd g.rt r (some none)) r' (some (some ⟨.sl T e, .ow m, 0, xs ++ ys⟩)))) a' w') Q := by
  obtain ⟨R, h1, h2⟩ := hx
  rw [hr] at h1
  obtain rfl := Option.some.inj h1
  have h2 := h2 (by simp)
  obtain ⟨cs, k1, k2⟩ := h.mem.roots r _ hr
  simp [Shows, Kt.isAgg] at k1
  subst k1
  obtain ⟨hu, i, z, hi, hs, hby, hz, hzs⟩ := appOk_spec ht
  obtain ⟨news, hsrc, hnews⟩ := hy
  simp only [appFits, Bool.and_eq_true, decide_eq_true_eq] at hfit
  obtain ⟨v', w', F', hrun, e1, e2, e3, e4, e5, e6, e7, e8⟩ := run_append (ty := o.type) hu hi hs hz hzs k2 (h.mem.nodup r) hsrc (hnews.imp fun F' x c hF hr => by
    have h0 : F' = [] := nil_of_sub rfl hF
    subst h0
    exact Rz_unfree _ _ _ _ hm hr) (by simpa using h.mem.nodup r) (by rw [hby]; exact hfit.1) hfit.2
  refine wp_val (v := v') (w' := w') ?_ (h.renew hr hr' e1 e2 e3 e4 e5 (fun b hb => (e6 b hb).elim .inl fun h => h.elim (fun h => by cases h) .inr) e7 (cs := [v']) (by simp [Shows, Kt.isAgg]) (fun Sh' hK => e8 Sh' hK (by simp)) hd)
  simp only [execOp, ho, resolve, Sem.run_bind, invoke, builtin]
  simp [h2, hrun]

/-- append: to nil. -/
theorem op_append_nil (h : Pre cx g a w V Fp) {t t2 T : TypeId} {x y : Operand} (ho : o.op = .call { callee := .builtin .append, args := #[x, y], argTypes := #[t, t2] }) {r' : Nat} {e : Kt} {bytes : Nat} {ys : List e.T}
    (hx : a.eval x = .slice none 0 0) (hy : AppSrc P cx Fp w e t2 (a.eval y) ys) (ht : appOk P t T e bytes = true) (hfit : appFits 0 ys.length bytes = true)
    (hr' : g.rt r' = none) (hd : ∀ t, o.dst = some t → cx.T t) :
    o.wp P a w (fun a' w' => GSat cx (g.put o.dst (one (.own r')) (upd g.rt r' (some (some ⟨.sl T e, .ow .sh, 0, ys⟩)))) a' w') Q := by
  obtain ⟨hu, i, z, hi, hs, hby, hz, hzs⟩ := appOk_spec ht
  obtain ⟨news, hsrc, hnews⟩ := hy
  simp only [appFits, Bool.and_eq_true, decide_eq_true_eq] at hfit
  have hnil : Rz w (cx.Sh Fp) (.sl T e) (.ow .sh) [] ([] : List e.T) [.slice none 0 0] := .inl ⟨rfl, rfl, rfl⟩
  obtain ⟨v', w', F', hrun, e1, e2, e3, e4, e5, e6, e7, e8⟩ := run_append (ty := o.type) hu hi hs hz hzs hnil List.nodup_nil hsrc hnews (by simp) (by rw [hby]; exact hfit.1) hfit.2
  refine wp_val (v := v') (w' := w') ?_ (h.fresh hr' e1 e2 e3 e4 (fun b hb => e5 b hb (by simp)) (fun b hb => (e6 b hb).elim (fun h => by cases h) fun h => h.elim (fun h => by cases h) id) e7 (cs := [v']) (by simp [Shows, Kt.isAgg]) (fun Sh' hK => by simpa using e8 Sh' hK (by simp)) hd)
  simp only [execOp, ho, resolve, Sem.run_bind, invoke, builtin]
  simp [hx, hrun]

/-- Sources: a slice that is read, an owned slice whose parts own nothing, a string. -/
theorem appSrc_val {e : Kt} {T t2 : TypeId} {ys : List e.T} {v : Value} (hu : P.underlying t2 = some (.slice T)) (hy : ESat cx g.rt V Fp w (.val (.sl T e) ys) v) : AppSrc P cx Fp w e t2 v ys := by
  obtain ⟨A, cap, rfl, h1, h2⟩ := hy.sl
  rcases h2 with ⟨rfl, _⟩ | ⟨b, o', cc, rfl, h3, h4, h5, h6⟩
  · cases A with
    | none =>
      refine ⟨[], ?_, .nil⟩
      exact Src.ofNil w hu cap
    | some ad =>
      refine ⟨[], ?_, .nil⟩
      exact Src.ofSlice w hu ad 0 cap [] (by simp) (by simp) (by simp)
  · exact ⟨cc, Src.ofSlice w hu _ _ cap cc (h5.len (Rz_len _ _ _ _)) (fun j u hj => by rw [Addr.add_lit]; exact h6 j u hj) (h5.one fun F' x c hr => Rz_one _ _ _ _ _ _ _ hr), h5⟩
theorem Pre.appSrc_own (h : Pre cx g a w V Fp) {e : Kt} {T t2 : TypeId} {m : Mk} {hv r : Nat} {ys : List e.T} {v : Value} (hu : P.underlying t2 = some (.slice T)) (hr : g.rt r = some (some ⟨.sl T e, .ow m, hv, ys⟩)) (hm : m.free = true) (hy : ESat cx g.rt V Fp w (.own r) v) : AppSrc P cx Fp w e t2 v ys := by
  obtain ⟨R, h1, h2⟩ := hy
  rw [hr] at h1
  obtain rfl := Option.some.inj h1
  have hvv := h2 (by simp)
  clear h2
  obtain ⟨cs, k1, k2⟩ := h.mem.roots r _ hr
  simp [Shows, Kt.isAgg] at k1
  subst k1
  rcases k2 with ⟨_, rfl, k3⟩ | ⟨b, cap, C, Fe, k3, k4, k5, k6, k7, k8⟩
  · have k3 := (List.cons.inj k3).1
    rw [hvv, k3]
    exact ⟨[], Src.ofNil w hu 0, .nil⟩
  · have k3 := (List.cons.inj k3).1
    rw [hvv, k3]
    have k9 := (k8.free (R' := Rz w (cx.Sh Fp) e .sh) fun F' x c hr => Rz_free _ _ _ _ _ hm hr).2
    exact ⟨_, Src.ofSlice w hu _ _ cap _ (k8.len (Rz_len _ _ _ _)) (fun j u hj => by rw [Addr.add_lit]; exact CellsAt_block k5 j u hj) (k8.one fun F' x c hr => Rz_one _ _ _ _ _ _ _ hr), k9⟩
theorem byteCells_rz {Sh : Nat → Prop} (s : ByteArray) : RzL (Rz w Sh (.int .u8) .sh) [] (s.data.toList.map fun b => (b.toNat : Int)) (byteCells s) := by
  unfold byteCells
  induction s.data.toList with
  | nil => exact .nil
  | cons b l ih => exact RzL.cons (F := []) (Fs := []) (c := [.int .u8 b.toNat]) ⟨rfl, .inr ⟨by simp, rfl⟩⟩ ih
theorem appSrc_str {t2 : TypeId} {s : ByteArray} {v : Value} (hu : P.underlying t2 = some .string) (hy : ESat cx g.rt V Fp w (.val .str s) v) : AppSrc P cx Fp w (.int .u8) t2 v (s.data.toList.map fun b => (b.toNat : Int)) := by
  rw [hy.str]
  refine ⟨byteCells s, ?_, byteCells_rz s⟩
  have := Src.ofString w hu s
  have hl : (s.data.toList.map fun b => (b.toNat : Int)).length = s.size := by
    rw [List.length_map, Array.length_toList]; rfl
  rw [hl]
  exact this
theorem appSrc_nil {t2 T : TypeId} {e : Kt} {v : Value} (hu : P.underlying t2 = some (.slice T)) (hy : v = .slice none 0 0) : AppSrc P cx Fp w e t2 v ([] : List e.T) := by
  subst hy
  exact ⟨[], Src.ofNil w hu 0, .nil⟩
end
end Go.Lift

namespace Go.Lift
set_option linter.unusedVariables false
set_option linter.unusedSimpArgs false

/-- The mask stands as it is behind a change. -/
def mchk : (k : Kt) → Mk → List (St Unit) → Mk → Bool
  | _, m, [], mn => decide (mn = m)
  | .pair a _, m, .l :: p, mn => mchk a m.l p mn
  | .pair _ b, m, .r :: p, mn => mchk b m.r p mn
  | .arr _ e, m, .ix _ :: p, mn => mchk e m.e p mn
  | .sl _ e, .ow m, .ix _ :: p, mn => mchk e m p mn
  | .ptr _ e, .ow m, .ad :: p, mn => mchk e m p mn
  | .win (.sl _ e), .ow m, .ix _ :: p, mn => mchk e m p mn
  | .opt b a, m, .sm :: p, mn => mchk a m p mn
  | _, _, _, _ => false
/-- The mask behind a change, reckoned. -/
def mset : (k : Kt) → Mk → List (St Unit) → Mk → Option Mk
  | _, _, [], mn => some mn
  | .pair a _, m, .l :: p, mn => (mset a m.l p mn).map fun x => .pr x m.r
  | .pair _ b, m, .r :: p, mn => (mset b m.r p mn).map fun x => .pr m.l x
  | .arr _ e, m, .ix _ :: p, mn => if mchk e m.e p mn then some m else none
  | .sl _ e, .ow m, .ix _ :: p, mn => if mchk e m p mn then some (.ow m) else none
  | .ptr _ e, .ow m, .ad :: p, mn => (mset e m p mn).map .ow
  | .win (.sl _ e), .ow m, .ix _ :: p, mn => if mchk e m p mn then some (.ow m) else none
  | .opt b a, m, .sm :: p, mn => mset a m p mn
  | _, _, _, _ => none

def Path.sh {E : Type} (p : Path E) : List (St Unit) := p.map (St.map fun _ => ())

theorem mchk_spec {E : Type} (e : E) : ∀ (p : Path E) (k : Kt) (m mn : Mk), mchk k m p.sh mn = true → MSet k m (p.at e) mn m
  | [], k, m, mn, h => by
    simp only [Path.sh, List.map_nil, mchk, decide_eq_true_eq] at h
    simp [Path.at, MSet, h]
  | s :: p, k, m, mn, h => by
    cases k <;> cases s <;> try (simp [Path.sh, St.map, mchk] at h; done)
    case pair.l a b => exact ⟨mchk_spec e p _ _ _ h, rfl⟩
    case pair.r a b => exact ⟨mchk_spec e p _ _ _ h, rfl⟩
    case arr.ix n a i => exact ⟨mchk_spec e p _ _ _ h, rfl⟩
    case sl.ix T a i =>
      cases m <;> try (simp [Path.sh, St.map, mchk] at h; done)
      exact ⟨mchk_spec e p _ _ _ h, rfl⟩
    case ptr.ad T a =>
      cases m <;> try (simp [Path.sh, St.map, mchk] at h; done)
      exact ⟨_, rfl, mchk_spec e p _ _ _ h⟩
    case win.ix s i =>
      cases s <;> try (simp [Path.sh, St.map, mchk] at h; done)
      cases m <;> try (simp [Path.sh, St.map, mchk] at h; done)
      exact ⟨mchk_spec e p _ _ _ h, rfl⟩
    case opt.sm b a => exact mchk_spec e p _ _ _ h
theorem mset_spec {E : Type} (e : E) : ∀ (p : Path E) (k : Kt) (m mn mr : Mk), mset k m p.sh mn = some mr → MSet k m (p.at e) mn mr
  | [], k, m, mn, mr, h => by
    simp only [Path.sh, List.map_nil, mset, Option.some.injEq] at h
    simp [Path.at, MSet, h]
  | s :: p, k, m, mn, mr, h => by
    cases k <;> cases s <;> try (simp [Path.sh, St.map, mset] at h; done)
    case pair.l a b =>
      simp only [Path.sh, List.map_cons, St.map, mset] at h
      obtain ⟨x, hx, rfl⟩ := Option.map_eq_some_iff.1 h
      exact ⟨mset_spec e p _ _ _ _ hx, rfl⟩
    case pair.r a b =>
      simp only [Path.sh, List.map_cons, St.map, mset] at h
      obtain ⟨x, hx, rfl⟩ := Option.map_eq_some_iff.1 h
      exact ⟨mset_spec e p _ _ _ _ hx, rfl⟩
    case arr.ix n a i =>
      simp only [Path.sh, List.map_cons, St.map, mset] at h
      split at h
      · rename_i hx
        obtain rfl := Option.some.inj h
        exact ⟨mchk_spec e p _ _ _ hx, rfl⟩
      · cases h
    case sl.ix T a i =>
      cases m <;> try (simp [Path.sh, St.map, mset] at h; done)
      simp only [Path.sh, List.map_cons, St.map, mset] at h
      split at h
      · rename_i hx
        obtain rfl := Option.some.inj h
        exact ⟨mchk_spec e p _ _ _ hx, rfl⟩
      · cases h
    case ptr.ad T a =>
      cases m <;> try (simp [Path.sh, St.map, mset] at h; done)
      simp only [Path.sh, List.map_cons, St.map, mset] at h
      obtain ⟨x, hx, rfl⟩ := Option.map_eq_some_iff.1 h
      exact ⟨x, rfl, mset_spec e p _ _ _ _ hx⟩
    case win.ix s i =>
      cases s <;> try (simp [Path.sh, St.map, mset] at h; done)
      cases m <;> try (simp [Path.sh, St.map, mset] at h; done)
      simp only [Path.sh, List.map_cons, St.map, mset] at h
      split at h
      · rename_i hx
        obtain rfl := Option.some.inj h
        exact ⟨mchk_spec e p _ _ _ hx, rfl⟩
      · cases h
    case opt.sm b a => exact mset_spec e p _ _ _ _ h

section
variable {P : Program} {cx : Cx} {g : G} {a : Act} {w : World} {V : Nat → Value} {Fp : Nat → List Nat} {o : Oper} {Q : Exit → Act → World → Prop}

theorem run_storeAt {t : TypeId} {n : Nat} {inf : TypeInfo} (ht : P.info? t = some inf) (hsz : inf.size = n) {b o' T : Nat} {cur : Array Value} (hb : w.heap[b]? = some (.cells cur T (0, 0))) {v : Value} (hv : v.cells.toList.length = n) (hfit : o' + n ≤ cur.size) (h1 : ∀ u ∈ v.cells.toList, u.oneCell' = true) :
    (Instr.storeAt t (.pointer (some ⟨b, o', none⟩)) v).run P w = .ok () (w.setRow b (cur.toList.take o' ++ v.cells.toList ++ cur.toList.drop (o' + n)).toArray) := by
  have := run_storeCells_at P b o' T v.cells.toList 0 cur w hb (by rw [hv]; exact hfit) h1
  rw [Nat.add_zero, hv] at this
  have hv' : v.cells.size = n := by rw [← hv]; simp
  simp only [Instr.storeAt, Instr.sureAddr, storeVar, sizeOf, typeInfo]
  simp [ht, hsz, hv', this]

/-- store: into an owned place, cells of a value that is read or that another root owns. -/
theorem op_store (h : Pre cx g a w V Fp) {t : TypeId} {x y : Operand} (ho : o.op = .store t x y) {r hv : Nat} {R : GRoot} {E : Type} (e : E) {p : Path E} {L : Lens E R.k} (hx : ESat cx g.rt V Fp w (.loc r hv (p.at e)) (a.eval x))
    (hr : g.rt r = some (some R)) (hl : live R hv (p.at e) = true) (hL : lens R.k R.m p = some L) (hok : L.ok e R.x = true) (ht : tyOk P t L.k' = true)
    (s : Nat) (hs : s ≠ r) {mn mr : Mk} (how : ∃ m1, R.m = .ow m1) (hms : mset R.k R.m p.sh mn = some mr) {y' : L.k'.T} (hy : Shows L.k' (a.eval y) (a.eval y).cells.toList ∧ Rz w (cx.Sh Fp) L.k' mn (Fp s) y' (a.eval y).cells.toList) (hsb : Fp s ≠ [] → ∃ R', g.rt s = some R')
    {rt' : Nat → Option GR} (hrt1 : rt' r = some (some ⟨R.k, mr, R.hv + 1, L.put e R.x y'⟩)) (hrt2 : rt' s = g.rt s ∧ Fp s = [] ∨ rt' s = some none) (hrt2' : rt' s = some none → ∃ R', g.rt s = some R') (hrt3 : ∀ q, q ≠ r → q ≠ s → rt' q = g.rt q) (hd : o.dst = none) :
    o.wp P a w (fun a' w' => GSat cx (g.put o.dst (fun _ => none) rt') a' w') Q := by
  obtain ⟨b, o', h1, h2⟩ := hx.loc_at hr hl (by rw [← gok_lens e (lens_is _ _ _ _ hL)]; exact hok)
  obtain ⟨Fa, Fo, Fb, c, hF, hc, H⟩ := h.hole hr e hL hok
  rcases H with ⟨c1, c2, k1, k2, _⟩ | ⟨b', c1, c2, T, hb, k2, k3, k4⟩
  · rw [k2 none] at h2; cases h2
  have := k2 none
  rw [h2] at this
  obtain ⟨rfl, rfl⟩ := Prod.mk.inj (Option.some.inj this)
  clear this
  obtain ⟨hsh, hz⟩ := hy
  have hlen := Rz_len _ _ _ _ _ _ _ hz
  have hlc := Rz_len _ _ _ _ _ _ _ hc
  obtain ⟨inf, hi, his⟩ := tyOk_size ht
  have hrun := run_storeAt (P := P) (n := L.k'.size) (o' := c1.length) hi his k3 hlen (by simp only [List.size_toArray, List.length_append, hlc]; omega) (Rz_one _ _ _ _ _ _ _ hz)
  have hcur : (c1 ++ (c ++ c2)).toArray.toList.take c1.length ++ (a.eval y).cells.toList ++ (c1 ++ (c ++ c2)).toArray.toList.drop (c1.length + L.k'.size) = c1 ++ ((a.eval y).cells.toList ++ c2) := by
    simp only []
    rw [take_len _ _ rfl, ← hlc, ← List.append_assoc c1 c c2, drop_len (c1 ++ c) c2 (by simp), List.append_assoc]
  rw [hcur] at hrun
  have hw' : (w.setRow b (c1 ++ ((a.eval y).cells.toList ++ c2)).toArray).heap[b]? = some (.cells (c1 ++ ((a.eval y).cells.toList ++ c2)).toArray T (0, 0)) := setRow_heap w b _ _ T _ k3
  have hbr : b ∈ Fp r := by rw [hF]; simp [hb]
  have hbs : b ∉ Fp s := fun hb' => h.mem.disj r s (Ne.symm hs) b hbr hb'
  have hnd : (Fa ++ (Fo ++ Fb)).Nodup := hF ▸ h.mem.nodup r
  obtain ⟨csr, hsr, hzr⟩ := h.mem.roots r R hr
  refine wp_skip' (w' := w.setRow b (c1 ++ ((a.eval y).cells.toList ++ c2)).toArray) (by simp [execOp, ho, h1, hrun]) ?_
  refine GSat.step (d := o.dst) (v := undef) (es := fun _ => none) (rt' := rt') (w' := w.setRow b (c1 ++ ((a.eval y).cells.toList ++ c2)).toArray) (V' := V) (Fp' := upd (upd Fp s []) r (Fa ++ (Fp s ++ Fb))) (A := fun q => q = r ∨ q = s) h.defers h.size h.mem h.ents
    ⟨rfl, rfl, rfl, by simp [World.setRow], fun b' hb' hs' => setRow_other _ _ _ fun (e : b' = b) => hs' r (.inl rfl) (by rw [e]; exact hbr), fun q hq => ?_, fun q hq b' hb' => ?_, fun q hq => ?_, fun q q' hq hq' hne b' hb' hb'' => ?_, fun q hq hn => ?_, fun q R' hq hR hK => ?_, fun q hq => ?_⟩ (by rw [hd]; intro t ht; cases ht) fun i ent hi => by cases hi
  · have e1 : q ≠ r := fun e => hq (.inl e)
    have e2 : q ≠ s := fun e => hq (.inr e)
    exact ⟨hrt3 q e1 e2, rfl, by rw [upd_ne _ _ e1, upd_ne _ _ e2]⟩
  · rcases hq with rfl | rfl
    · rw [upd_same] at hb'
      simp only [List.mem_append] at hb'
      rcases hb' with hb' | hb' | hb'
      · exact .inr ⟨q, .inl rfl, by rw [hF]; simp [hb']⟩
      · exact .inr ⟨s, .inr rfl, hb'⟩
      · exact .inr ⟨q, .inl rfl, by rw [hF]; simp [hb']⟩
    · rw [upd_ne _ _ hs, upd_same] at hb'; cases hb'
  · rcases hq with rfl | rfl
    · rw [upd_same]
      have n1 := List.nodup_append.1 hnd
      have n2 := List.nodup_append.1 n1.2.1
      refine List.nodup_append.2 ⟨n1.1, List.nodup_append.2 ⟨h.mem.nodup s, n2.2.1, fun u hu v hv e => h.mem.disj q s (Ne.symm hs) v (by rw [hF]; simp [hv]) (e ▸ hu)⟩, fun u hu v hv e => ?_⟩
      rcases List.mem_append.1 hv with hv | hv
      · exact h.mem.disj q s (Ne.symm hs) u (by rw [hF]; simp [hu]) (e ▸ hv)
      · exact n1.2.2 u hu v (List.mem_append_right _ hv) e
    · rw [upd_ne _ _ hs, upd_same]; exact List.nodup_nil
  · rcases hq with rfl | rfl
    · rcases hq' with rfl | rfl
      · exact hne rfl
      · rw [upd_ne _ _ hs, upd_same] at hb''; cases hb''
    · rw [upd_ne _ _ hs, upd_same] at hb'; cases hb'
  · rcases hq with rfl | rfl
    · exact absurd hrt1 (hn _)
    · rw [upd_ne _ _ hs, upd_same]
  · rcases hq with rfl | rfl
    · rw [hrt1] at hR
      obtain rfl := Option.some.inj (Option.some.inj hR)
      rw [upd_same]
      refine ⟨csr, hsr, ?_⟩
      have hzn : Rz (w.setRow b (c1 ++ ((a.eval y).cells.toList ++ c2)).toArray) (cx.Sh (upd (upd Fp s []) q (Fa ++ (Fp s ++ Fb)))) L.k' mn (Fp s) y' (a.eval y).cells.toList := Rz_keep hK _ _ _ _ _ (fun b' hb' => setRow_other _ _ _ fun e => hbs (e ▸ hb')) hz
      rw [← shows_hdr hsr]
      exact (k4 _ _ mn mr (Fp s) y' _ hK (fun b' _ hne => setRow_other _ _ _ hne) hw' (mset_spec e p _ _ _ _ hms) hzn).1
    · rcases hrt2 with ⟨h3, h4⟩ | h3
      · rw [h3] at hR
        obtain ⟨cs, h5, h6⟩ := h.mem.roots q R' hR
        rw [upd_ne _ _ hs, upd_same]
        refine ⟨cs, h5, ?_⟩
        rw [h4] at h6
        exact Rz_keep hK _ _ _ _ _ (by intro b hb; cases hb) h6
      · rw [h3] at hR; cases hR
  · rcases hq with rfl | rfl
    · rw [hr, hrt1]
      refine .inr ⟨mr, _, _, rfl, rfl, .inr ⟨Nat.lt_succ_self _, fun _ _ => how, fun p' hp' => ?_⟩⟩
      rw [shows_hdr hsr]
      obtain ⟨m1, hm1⟩ := how
      refine adr_shal hp' (by rw [hm1]; exact shal_vp hp') hzr fun b' hb' C T' f hh => ?_
      by_cases he : b' = b
      · subst he
        rw [k3] at hh
        obtain ⟨rfl, rfl, rfl⟩ := Obj.cells.inj (Option.some.inj hh)
        exact ⟨_, hw'⟩
      · exact ⟨C, by rw [setRow_other _ _ _ he]; exact hh⟩
    · rcases hrt2 with ⟨h3, h4⟩ | h3
      · rw [h3]
        cases hq : g.rt q with
        | none => trivial
        | some q' =>
          cases q' with
          | none => rfl
          | some R' => exact .inr ⟨R'.m, R'.hv, R'.x, rfl, rfl, .inl ⟨rfl, rfl, rfl, fun b hb => (by rw [h4] at hb; cases hb), fun b hb => (by rw [h4] at hb; cases hb)⟩⟩
      · obtain ⟨R', hR'⟩ := hrt2' h3
        rw [hR', h3]
        cases R' with
        | none => rfl
        | some R' => exact .inl rfl
end
end Go.Lift

namespace Go.Lift
set_option linter.unusedVariables false
set_option linter.unusedSimpArgs false

/-! ### States with data that hang on what came before (E) -/
inductive Ent (E : Type) where
  | val (k : Kt) (x : E → k.T)
  | own (r : Nat)
  | loc (r hv : Nat) (p : Path E)
  | sub (r hv : Nat) (p : Path E)
  | view (r hv : Nat) (k : Kt) (p : Path E)
  | place (k : Kt) (x : E → k.T)
  | cst (v : Value)
  | atl (x : E → Int)
structure Root (E : Type) where
  k : Kt
  m : Mk
  hv : Nat
  x : E → k.T

def Ent.ev {E : Type} (e : E) : Ent E → GEnt
  | .val k x => .val k (x e)
  | .own r => .own r
  | .loc r hv p => .loc r hv (p.at e)
  | .sub r hv p => .sub r hv (p.at e)
  | .view r hv k p => .view r hv k (p.at e)
  | .place k x => .place k (x e)
  | .cst v => .cst v
  | .atl x => .atl (x e)
def Root.ev {E : Type} (e : E) (R : Root E) : GRoot := ⟨R.k, R.m, R.hv, R.x e⟩

def Path.pull {E E' : Type} (f : E' → E) (p : Path E) : Path E' := p.map (St.map fun i e => i (f e))
def Ent.pull {E E' : Type} (f : E' → E) : Ent E → Ent E'
  | .val k x => .val k fun e => x (f e)
  | .own r => .own r
  | .loc r hv p => .loc r hv (p.pull f)
  | .sub r hv p => .sub r hv (p.pull f)
  | .view r hv k p => .view r hv k (p.pull f)
  | .place k x => .place k fun e => x (f e)
  | .cst v => .cst v
  | .atl x => .atl fun e => x (f e)
def Root.pull {E E' : Type} (f : E' → E) (R : Root E) : Root E' := ⟨R.k, R.m, R.hv, fun e => R.x (f e)⟩

theorem St.map_map {ι κ l : Type} (f : ι → κ) (h : κ → l) (s : St ι) : (s.map f).map h = s.map fun i => h (f i) := by cases s <;> rfl
theorem Path.at_pull {E E' : Type} (f : E' → E) (p : Path E) (e : E') : (p.pull f).at e = p.at (f e) := by
  simp only [Path.at, Path.pull, List.map_map]
  apply List.map_congr_left
  intro s _
  simp [St.map_map]
theorem Ent.ev_pull {E E' : Type} (f : E' → E) (x : Ent E) (e : E') : (x.pull f).ev e = x.ev (f e) := by
  cases x <;> simp [Ent.pull, Ent.ev, Path.at_pull]
theorem Root.ev_pull {E E' : Type} (f : E' → E) (x : Root E) (e : E') : (x.pull f).ev e = x.ev (f e) := rfl

/-- Which guards: a slot, and what it must hold. -/
abbrev Gs := List (Tmp × Bool)
structure Slot (E : Type) where
  gs : Gs
  ent : Ent E
/-- A state: what the slots hold, the roots, the next root's number. -/
structure Lst (E : Type) where
  tm : List ((Nat × Nat) × Slot E)
  rt : List (Nat × (Gs × Option (Root E)))
  nx : Nat

section
variable {E : Type}
def look {α β : Type} [DecidableEq α] (k : α) : List (α × β) → Option β
  | [] => none
  | (k', v) :: l => if k = k' then some v else look k l

/-- The guard's test. -/
def Lst.gval (s : Lst E) (t : Tmp) : Option (E → Bool) := match look (t, 0) s.tm with
  | some ⟨_, .val .bool x⟩ => some x
  | _ => none
def Lst.on (s : Lst E) (gs : Gs) (e : E) : Bool := gs.all fun q => match s.gval q.1 with
  | some x => x e == q.2
  | none => false
def Lst.gr (s : Lst E) (e : E) : G where
  tm := fun q => match look q s.tm with
    | some sl => if s.on sl.gs e = true then some (sl.ent.ev e) else if q.2 = 0 then some (.cst undef) else none
    | none => none
  rt := fun r => match look r s.rt with
    | some q => if s.on q.1 e = true then some (q.2.map (Root.ev e)) else none
    | none => none

/-- A slot that may be read under these guards. -/
def Lst.at (s : Lst E) (gs : Gs) (q : Nat × Nat) : Option (Ent E) := match look q s.tm with
  | some sl => if sl.gs.all (gs.contains ·) then some sl.ent else none
  | none => none
def Lst.root (s : Lst E) (gs : Gs) (r : Nat) : Option (Root E) := match look r s.rt with
  | some (gs', some R) => if gs'.all (gs.contains ·) then some R else none
  | _ => none

theorem on_sub {s : Lst E} {gs gs' : Gs} {e : E} (h : gs'.all (gs.contains ·) = true) (ho : s.on gs e = true) : s.on gs' e = true := by
  unfold Lst.on at *
  rw [List.all_eq_true] at *
  intro q hq
  exact ho q (by have := h q hq; simpa using this)
theorem Lst.at_gr {s : Lst E} {gs : Gs} {q : Nat × Nat} {x : Ent E} {e : E} (h : s.at gs q = some x) (ho : s.on gs e = true) : (s.gr e).tm q = some (x.ev e) := by
  unfold Lst.at at h
  unfold Lst.gr
  simp only []
  split at h
  · rename_i sl hsl
    split at h
    · rename_i hg
      obtain rfl := Option.some.inj h
      rw [if_pos (on_sub hg ho)]
    · cases h
  · cases h
theorem Lst.root_gr {s : Lst E} {gs : Gs} {r : Nat} {R : Root E} {e : E} (ho : s.on gs e = true) (h : s.root gs r = some R) : (s.gr e).rt r = some (some (R.ev e)) := by
  unfold Lst.root at h
  unfold Lst.gr
  simp only []
  split at h
  · rename_i gs' R' hR
    split at h
    · rename_i hg
      obtain rfl := Option.some.inj h
      rw [hR]
      simp only []
      rw [if_pos (on_sub hg ho)]
      rfl
    · cases h
  · cases h

/-- The slots that an operation reads. -/
def opTmps (o : Oper) : List Tmp := o.op.operands.toList.filterMap fun | .tmp t => some t | _ => none
def Ent.roots : Ent E → List Nat
  | .own r => [r]
  | .loc r _ _ => [r]
  | .sub r _ _ => [r]
  | .view r _ _ _ => [r]
  | _ => []
/-- The roots that the slots lead to. -/
def Lst.rootsOf (s : Lst E) (ts : List Tmp) : List Nat := s.tm.flatMap fun q => if ts.contains q.1.1 then q.2.ent.roots else []

theorem look_mem {α β : Type} [DecidableEq α] {k : α} {l : List (α × β)} {v : β} (h : look k l = some v) : (k, v) ∈ l := by
  induction l with
  | nil => cases h
  | cons q l ih =>
    obtain ⟨k', v'⟩ := q
    simp only [look] at h
    split at h
    · rename_i hk; subst hk; obtain rfl := Option.some.inj h; exact List.mem_cons_self ..
    · exact List.mem_cons_of_mem _ (ih h)
theorem Lst.at_roots {s : Lst E} {gs : Gs} {t i : Nat} {x : Ent E} (h : s.at gs (t, i) = some x) {ts : List Tmp} (ht : t ∈ ts) : ∀ r ∈ x.roots, r ∈ s.rootsOf ts := by
  unfold Lst.at at h
  split at h
  · rename_i sl hsl
    split at h
    · obtain rfl := Option.some.inj h
      intro r hr
      unfold Lst.rootsOf
      rw [List.mem_flatMap]
      exact ⟨_, look_mem hsl, by simp [ht, hr]⟩
    · cases h
  · cases h

/-- The state at hand shows what the operation looks at; n: the new roots' numbers. -/
structure Agree (g : G) (s : Lst E) (e : E) (ts : List Tmp) (n : Nat) : Prop where
  tm : ∀ t ∈ ts, ∀ i, g.tm (t, i) = (s.gr e).tm (t, i)
  rt : ∀ r ∈ s.rootsOf ts, g.rt r = (s.gr e).rt r
  new : ∀ i, i < n → g.rt (s.nx + i) = none

/-- An operand. -/
def Lst.op (s : Lst E) (gs : Gs) : Operand → Option (Ent E)
  | .tmp t => s.at gs (t, 0)
  | .const (.int k n) => some (.val (.int k) fun _ => n)
  | .const (.bool b) => some (.val .bool fun _ => b)
  | .const (.string b) => some (.val .str fun _ => b)
  | .const v => some (.cst v)
  | .func f => some (.val (.fn f .unit) fun _ => ())
  | .global _ => none

/-- What an operation comes to: what is asked ahead (a test that must hold), the slot's new parts, the roots' changes, how many new roots. -/
structure OR (E : Type) where
  chk : Option (E → Bool)
  es : List (Nat × Ent E)
  ru : List (Nat × Option (Root E))
  n : Nat

def OR.ok (r : OR E) (e : E) : Bool := match r.chk with
  | none => true
  | some b => b e
def evs (l : List (Nat × Ent E)) (e : E) : Nat → Option GEnt := fun i => (look i l).map (Ent.ev e)
def rtU (rt : Nat → Option GR) (l : List (Nat × Option (Root E))) (e : E) : Nat → Option GR := fun r => match look r l with
  | some q => some (q.map (Root.ev e))
  | none => rt r
theorem evs_one (x : Ent E) (e : E) : evs [(0, x)] e = one (x.ev e) := by
  funext i
  simp only [evs, look, one]
  split <;> rfl
theorem rtU_nil (rt : Nat → Option GR) (e : E) : rtU rt ([] : List (Nat × Option (Root E))) e = rt := rfl
theorem rtU_cons (rt : Nat → Option GR) (r : Nat) (q : Option (Root E)) (l : List (Nat × Option (Root E))) (e : E) : rtU rt ((r, q) :: l) e = upd (rtU rt l e) r (some (q.map (Root.ev e))) := by
  funext s
  simp only [rtU, look, upd]
  by_cases h : s = r
  · simp [h]
  · simp [h]

def Snd (P : Program) (o : Oper) (s : Lst E) (gs : Gs) (r : OR E) : Prop :=
  ∀ (cx : Cx) (e : E) (g : G) (a : Act) (w : World) (V : Nat → Value) (Fp : Nat → List Nat) (Q : Exit → Act → World → Prop), s.on gs e = true → r.ok e = true → Agree g s e (opTmps o) r.n → (∀ t, o.dst = some t → cx.T t) → Pre cx g a w V Fp →
    o.wp P a w (fun a' w' => GSat cx (g.put o.dst (evs r.es e) (rtU g.rt r.ru e)) a' w') Q

theorem mem_opTmps {o : Oper} {x : Operand} (hx : x ∈ o.op.operands) {t : Tmp} (h : x = .tmp t) : t ∈ opTmps o := by
  subst h
  exact List.mem_filterMap.2 ⟨.tmp t, by simpa using hx, rfl⟩

section
variable {P : Program} {cx : Cx} {g : G} {a : Act} {w : World} {V : Nat → Value} {Fp : Nat → List Nat} {o : Oper} {Q : Exit → Act → World → Prop} {s : Lst E} {gs : Gs} {e : E} {n : Nat}

/-- What an operand holds. -/
theorem Lst.op_esat (h : Pre cx g a w V Fp) (hA : Agree g s e (opTmps o) n) (ho : s.on gs e = true) {x : Operand} (hx : x ∈ o.op.operands) {en : Ent E} (hen : s.op gs x = some en) : ESat cx g.rt V Fp w (en.ev e) (a.eval x) := by
  unfold Lst.op at hen
  split at hen
  · rename_i t
    have h1 := Lst.at_gr hen ho
    rw [← hA.tm t (mem_opTmps hx rfl) 0] at h1
    obtain ⟨v, u, h2, h3, h4⟩ := h.ents t 0 _ h1
    obtain rfl := Option.some.inj h3
    have : a.eval (.tmp t) = v := by simp [Act.eval, h2]
    rw [this]
    exact h4
  · obtain rfl := Option.some.inj hen; exact esat_int _ _
  · obtain rfl := Option.some.inj hen; exact esat_bool _
  · obtain rfl := Option.some.inj hen; exact esat_str _
  · obtain rfl := Option.some.inj hen; rfl
  · obtain rfl := Option.some.inj hen; exact ⟨[_], rfl, rfl, .inr ⟨by simp, [], [], rfl, ⟨rfl, rfl⟩, rfl, rfl⟩⟩
  · cases hen
theorem Lst.op_root (hA : Agree g s e (opTmps o) n) {x : Operand} (hx : x ∈ o.op.operands) {en : Ent E} (hen : s.op gs x = some en) {r : Nat} (hr : r ∈ en.roots) : g.rt r = (s.gr e).rt r := by
  unfold Lst.op at hen
  split at hen
  · rename_i t
    exact hA.rt r (Lst.at_roots hen (mem_opTmps hx rfl) r hr)
  all_goals first | (obtain rfl := Option.some.inj hen; cases hr; done) | cases hen
end
end
/-! ### Windows -/
theorem Rz_win {w : World} {Sh : Nat → Prop} {T : TypeId} {e : Kt} {z : List e.T × Nat} {cs : List Value} (h : Rz w Sh (.win (.sl T e)) .sh [] z cs) : Rz w Sh (.sl T e) .sh [] (z.1.take z.2 : List e.T) cs := by
  obtain ⟨_, A, n, cap, rfl, hn, hz⟩ := h.resolve_left fun h => by cases h.1
  obtain ⟨A', cap', hc, hcap, h1⟩ := (hz.2.resolve_left fun h => by cases h.1).2
  obtain ⟨rfl, rfl, rfl⟩ := Value.slice.inj (List.cons.inj hc).1
  have hl : (List.take z.2 z.1).length = z.2 := by rw [List.length_take]; exact Nat.min_eq_left hn
  refine ⟨rfl, .inr ⟨by simp, A, cap, by rw [hl], by rw [hl]; exact ⟨Nat.le_trans hn hcap.1, hcap.2⟩, ?_⟩⟩
  rcases h1 with ⟨h2, h3⟩ | ⟨b, o, cc, h2, h3, h4, h5, h6⟩
  · have h2 : z.1 = [] := h2
    exact .inl ⟨by rw [h2]; simp, h3⟩
  · obtain ⟨F1, F2, c1, c2, hF, rfl, j1, j2⟩ := RzL.split h5 z.2
    obtain ⟨rfl, rfl⟩ := List.append_eq_nil_iff.1 hF.symm
    exact .inr ⟨b, o, c1, h2, h3, h4, j1, fun j v hj => h6 j v (by
      rw [List.getElem?_append_left]
      · exact hj
      · rcases Nat.lt_or_ge j c1.length with h | h
        · exact h
        · rw [List.getElem?_eq_none h] at hj; cases hj)⟩
/-- A value's window, seen as a slice. -/
def Ent.unwin {E : Type} : Ent E → Ent E
  | .val (.win (.sl T e)) z => .val (.sl T e) fun ε => (z ε).1.take (z ε).2
  | en => en
def Lst.opW {E : Type} (s : Lst E) (gs : Gs) (x : Operand) : Option (Ent E) := (s.op gs x).map Ent.unwin
theorem unwin_esat {E : Type} {cx : Cx} {g : G} {w : World} {V : Nat → Value} {Fp : Nat → List Nat} {en : Ent E} {e : E} {v : Value} (h : ESat cx g.rt V Fp w (en.ev e) v) : ESat cx g.rt V Fp w (en.unwin.ev e) v := by
  cases en with
  | val k z =>
    cases k <;> first | exact h | skip
    rename_i k
    cases k <;> first | exact h | skip
    obtain ⟨cs, h1, h2⟩ := h
    exact ⟨cs, h1, Rz_win h2⟩
  | _ => exact h
theorem unwin_roots {E : Type} (en : Ent E) : en.unwin.roots = en.roots := by
  cases en with
  | val k z =>
    cases k <;> first | rfl | skip
    rename_i k
    cases k <;> rfl
  | _ => rfl
theorem Lst.opW_esat {E : Type} {cx : Cx} {g : G} {a : Act} {w : World} {V : Nat → Value} {Fp : Nat → List Nat} {o : Oper} {s : Lst E} {gs : Gs} {e : E} {n : Nat} (h : Pre cx g a w V Fp) (hA : Agree g s e (opTmps o) n) (ho : s.on gs e = true) {x : Operand} (hx : x ∈ o.op.operands) {en : Ent E} (hen : s.opW gs x = some en) : ESat cx g.rt V Fp w (en.ev e) (a.eval x) := by
  obtain ⟨en', h1, rfl⟩ := Option.map_eq_some_iff.1 hen
  exact unwin_esat (Lst.op_esat h hA ho hx h1)
theorem Lst.opW_root {E : Type} {g : G} {o : Oper} {s : Lst E} {gs : Gs} {e : E} {n : Nat} (hA : Agree g s e (opTmps o) n) {x : Operand} (hx : x ∈ o.op.operands) {en : Ent E} (hen : s.opW gs x = some en) {r : Nat} (hr : r ∈ en.roots) : g.rt r = (s.gr e).rt r := by
  obtain ⟨en', h1, rfl⟩ := Option.map_eq_some_iff.1 hen
  rw [unwin_roots] at hr
  exact Lst.op_root hA hx h1 hr
end Go.Lift

namespace Go.Lift
set_option linter.unusedVariables false
set_option linter.unusedSimpArgs false
section
variable {E : Type} {P : Program} {o : Oper} {s : Lst E} {gs : Gs}

def cVal (x : Ent E) : OR E := ⟨none, [(0, x)], [], 0⟩
def cValIf (b : E → Bool) (x : Ent E) : OR E := ⟨some b, [(0, x)], [], 0⟩

/-- An operation that yields a value and leaves the world alone. -/
theorem Snd.value {chk : Option (E → Bool)} {x : Ent E}
    (h : ∀ (cx : Cx) (e : E) (g : G) (a : Act) (w : World) (V : Nat → Value) (Fp : Nat → List Nat), s.on gs e = true → (OR.ok ⟨chk, [(0, x)], [], 0⟩ e) = true → Agree g s e (opTmps o) 0 → Pre cx g a w V Fp →
      ∃ v, (execOp a.eval o).run P w = .ok (.value v) w ∧ ESat cx g.rt V Fp w (x.ev e) v) : Snd P o s gs ⟨chk, [(0, x)], [], 0⟩ := by
  intro cx e g a w V Fp Q ho hok hA hd hp
  obtain ⟨v, h1, h2⟩ := h cx e g a w V Fp ho hok hA hp
  refine wp_val h1 ?_
  rw [evs_one, rtU_nil]
  exact hp.pure hd h2

/-! ### move, assign, nilCheck -/
theorem snd_move {x : Operand} {en : Ent E} (ho : o.op = .move x) (h : s.op gs x = some en) : Snd P o s gs (cVal en) :=
  Snd.value fun cx e g a w V Fp h1 _ hA hp => ⟨a.eval x, by simp [execOp, ho], Lst.op_esat hp hA h1 (by simp [ho, Op.operands]) h⟩
theorem snd_assign {x : Operand} {en : Ent E} (ho : o.op = .assign x) (h : s.op gs x = some en) : Snd P o s gs (cVal en) :=
  Snd.value fun cx e g a w V Fp h1 _ hA hp => ⟨a.eval x, by simp [execOp, ho], Lst.op_esat hp hA h1 (by simp [ho, Op.operands]) h⟩

/-! ### Numbers, truths, strings -/
def arithF (op : BinOp) (k : IntKind) : Option (Int → Int → Int) := match op with
  | .add => some fun x y => k.wrap (x + y)
  | .sub => some fun x y => k.wrap (x - y)
  | .mul => some fun x y => k.wrap (x * y)
  | .and => some fun x y => k.wrap ((BitVec.ofInt k.bits x &&& BitVec.ofInt k.bits y).toNat : Nat)
  | .or => some fun x y => k.wrap ((BitVec.ofInt k.bits x ||| BitVec.ofInt k.bits y).toNat : Nat)
  | .xor => some fun x y => k.wrap ((BitVec.ofInt k.bits x ^^^ BitVec.ofInt k.bits y).toNat : Nat)
  | .andNot => some fun x y => k.wrap ((BitVec.ofInt k.bits x &&& ~~~(BitVec.ofInt k.bits y)).toNat : Nat)
  | _ => none
def divF (op : BinOp) (k : IntKind) : Option (Int → Int → Int) := match op with
  | .quo => some fun x y => k.wrap (x.tdiv y)
  | .rem => some fun x y => x.tmod y
  | _ => none
def cmpF (op : BinOp) : Option (Int → Int → Bool) := match op with
  | .eql => some fun x y => x == y
  | .neq => some fun x y => x != y
  | .lss => some fun x y => decide (x < y)
  | .leq => some fun x y => decide (x ≤ y)
  | .gtr => some fun x y => decide (x > y)
  | .geq => some fun x y => decide (x ≥ y)
  | _ => none
def shiftF (op : BinOp) (k : IntKind) : Option (Int → Int → Int) := match op with
  | .shl => some fun x y => k.wrap (x * 2 ^ (min y.toNat k.bits))
  | .shr => some fun x y => x.fdiv (2 ^ (min y.toNat k.bits))
  | _ => none
def strF (op : BinOp) : Option (ByteArray → ByteArray → Bool) := match op with
  | .eql => some fun x y => x.toList == y.toList
  | .neq => some fun x y => !(x.toList == y.toList)
  | .lss => some fun x y => Op.bytesLess x.toList y.toList
  | .leq => some fun x y => Op.bytesLess x.toList y.toList || x.toList == y.toList
  | .gtr => some fun x y => !(Op.bytesLess x.toList y.toList || x.toList == y.toList)
  | .geq => some fun x y => !(Op.bytesLess x.toList y.toList)
  | _ => none

theorem run_arith {op : BinOp} {k : IntKind} {f : Int → Int → Int} (h : arithF op k = some f) (t : TypeId) (x y : Int) (w : World) : (binOp op t (.int k x) (.int k y)).run P w = .ok (.int k (f x y)) w := by
  cases op <;> simp only [arithF] at h <;> first | (cases h; done) | (obtain rfl := Option.some.inj h; first | (simp [binOp, Op.intArith]; done) | (simp [binOp, Op.intBits]; done))
theorem run_div {op : BinOp} {k : IntKind} {f : Int → Int → Int} (h : divF op k = some f) (t : TypeId) (x y : Int) (hy : y ≠ 0) (w : World) : (binOp op t (.int k x) (.int k y)).run P w = .ok (.int k (f x y)) w := by
  cases op <;> simp only [divF] at h <;> first | (cases h; done) | (obtain rfl := Option.some.inj h; simp [binOp, Op.intDiv, hy])
theorem run_cmp {op : BinOp} {f : Int → Int → Bool} (h : cmpF op = some f) (t : TypeId) (k : IntKind) (x y : Int) (w : World) : (binOp op t (.int k x) (.int k y)).run P w = .ok (.bool (f x y)) w := by
  cases op <;> simp only [cmpF] at h <;> first | (cases h; done) | (obtain rfl := Option.some.inj h; simp [binOp, Op.intCmp])
theorem run_shift {op : BinOp} {k : IntKind} {f : Int → Int → Int} (h : shiftF op k = some f) (t : TypeId) (k' : IntKind) (x y : Int) (hy : ¬ y < 0) (w : World) : (binOp op t (.int k x) (.int k' y)).run P w = .ok (.int k (f x y)) w := by
  cases op <;> simp only [shiftF] at h <;> first | (cases h; done) | (obtain rfl := Option.some.inj h; simp [binOp_shl, binOp_shr, Op.shift, hy])
theorem run_strcmp {op : BinOp} {f : ByteArray → ByteArray → Bool} (h : strF op = some f) (t : TypeId) (x y : ByteArray) (w : World) : (binOp op t (.string x) (.string y)).run P w = .ok (.bool (f x y)) w := by
  cases op <;> simp only [strF] at h <;> first | (cases h; done) | (obtain rfl := Option.some.inj h; simp [binOp, Op.stringOp])
theorem eqGuard_int (op : BinOp) (t : TypeId) (x y : Operand) (k : IntKind) (n : Int) (v : Value) : eqGuard op t x y (.int k n) v = pure () := eqGuard_at_int op t x y v k n

def boolF (op : BinOp) : Option (Bool → Bool → Bool) := match op with
  | .eql => some fun x y => x == y
  | .neq => some fun x y => !(x == y)
  | _ => none
theorem run_equal_bool {t : TypeId} (ht : P.underlying t = some .bool) (x y : Bool) (w : World) : (Op.equal t (.bool x) (.bool y)).run P w = .ok (x == y) w := by
  unfold Op.equal Op.maxDepth
  rw [show (10000 : Nat) = 9999 + 1 from rfl, Op.equalIn]
  simp [run_underlying ht]
theorem run_boolop {op : BinOp} {f : Bool → Bool → Bool} (h : boolF op = some f) {t : TypeId} (ht : P.underlying t = some .bool) (x y : Bool) (w : World) : (binOp op t (.bool x) (.bool y)).run P w = .ok (.bool (f x y)) w := by
  cases op <;> simp only [boolF] at h <;> first | (cases h; done) | (obtain rfl := Option.some.inj h; simp only [binOp, Sem.run_bind]; rw [run_equal_bool ht]; rfl)

def c_bin (P : Program) (s : Lst E) (gs : Gs) (op : BinOp) (t : TypeId) (x y : Operand) : Option (OR E) :=
  match s.op gs x, s.op gs y with
  | some (.val (.int k) a), some (.val (.int k') b) =>
    match shiftF op k with
    | some f => some (cValIf (fun e => !decide (b e < 0)) (.val (.int k) fun e => f (a e) (b e)))
    | none =>
    if k' = k then
      match arithF op k with
      | some f => some (cVal (.val (.int k) fun e => f (a e) (b e)))
      | none => match cmpF op with
        | some f => some (cVal (.val .bool fun e => f (a e) (b e)))
        | none => match divF op k with
          | some f => some (cValIf (fun e => !(b e == 0)) (.val (.int k) fun e => f (a e) (b e)))
          | none => none
    else none
  | some (.val .str a), some (.val .str b) =>
    match op with
    | .add => some (cValIf (fun e => decide ((a e).size + (b e).size ≤ 9223372036854775807)) (.val .str fun e => a e ++ b e))
    | _ => match strF op with
      | some f => some (cVal (.val .bool fun e => f (a e) (b e)))
      | none => none
  | some (.val .bool a), some (.val .bool b) => match boolF op with
    | some f => match P.underlying t with
      | some .bool => some (cVal (.val .bool fun e => f (a e) (b e)))
      | _ => none
    | none => none
  | _, _ => none

theorem snd_bin {op : BinOp} {t t' : TypeId} {x y : Operand} {r : OR E} (ho : o.op = .binOp op t x y t') (h : c_bin P s gs op t x y = some r) : Snd P o s gs r := by
  unfold c_bin at h
  have mx : x ∈ o.op.operands := by simp [ho, Op.operands]
  have my : y ∈ o.op.operands := by simp [ho, Op.operands]
  split at h
  · rename_i k a k' b hx hy
    split at h
    · rename_i f hf
      obtain rfl := Option.some.inj h
      refine Snd.value fun cx e g ac w V Fp h1 hok hA hp => ⟨_, ?_, esat_int _ _⟩
      have ex := (Lst.op_esat hp hA h1 mx hx).int
      have ey := (Lst.op_esat hp hA h1 my hy).int
      simp only [OR.ok, Bool.not_eq_true', decide_eq_false_iff_not] at hok
      simp only [execOp, ho, ex, ey, eqGuard_int, Sem.run_bind, run_shift hf t k' (a e) (b e) hok, Result.andThen_ok]
      rfl
    · split at h
      · rename_i hk
        subst hk
        split at h
        · rename_i f hf
          obtain rfl := Option.some.inj h
          refine Snd.value fun cx e g ac w V Fp h1 hok hA hp => ⟨_, ?_, esat_int _ _⟩
          have ex := (Lst.op_esat hp hA h1 mx hx).int
          have ey := (Lst.op_esat hp hA h1 my hy).int
          simp only [execOp, ho, ex, ey, eqGuard_int, Sem.run_bind, run_arith hf t (a e) (b e), Result.andThen_ok]
          rfl
        · split at h
          · rename_i f hf
            obtain rfl := Option.some.inj h
            refine Snd.value fun cx e g ac w V Fp h1 hok hA hp => ⟨_, ?_, esat_bool _⟩
            have ex := (Lst.op_esat hp hA h1 mx hx).int
            have ey := (Lst.op_esat hp hA h1 my hy).int
            simp only [execOp, ho, ex, ey, eqGuard_int, Sem.run_bind, run_cmp hf t _ (a e) (b e), Result.andThen_ok]
            rfl
          · split at h
            · rename_i f hf
              obtain rfl := Option.some.inj h
              refine Snd.value fun cx e g ac w V Fp h1 hok hA hp => ⟨_, ?_, esat_int _ _⟩
              have ex := (Lst.op_esat hp hA h1 mx hx).int
              have ey := (Lst.op_esat hp hA h1 my hy).int
              simp only [OR.ok, Bool.not_eq_true', beq_eq_false_iff_ne, ne_eq] at hok
              simp only [execOp, ho, ex, ey, eqGuard_int, Sem.run_bind, run_div hf t (a e) (b e) hok, Result.andThen_ok]
              rfl
            · cases h
      · cases h
  · rename_i a b hx hy
    split at h
    · obtain rfl := Option.some.inj h
      refine Snd.value fun cx e g ac w V Fp h1 hok hA hp => ⟨_, ?_, esat_str _⟩
      have ex := (Lst.op_esat hp hA h1 mx hx).str
      have ey := (Lst.op_esat hp hA h1 my hy).str
      simp only [OR.ok, decide_eq_true_eq] at hok
      have : (binOp .add t (.string (a e)) (.string (b e))).run P w = .ok (.string (a e ++ b e)) w := by
        have h2 : ¬ (((a e).size : Int) + ((b e).size : Int) > 9223372036854775807) := by omega
        simp [binOp, Op.stringOp, h2]
      simp [execOp, ho, ex, ey, eqGuard_at_string, this]
    · split at h
      · rename_i f hf
        obtain rfl := Option.some.inj h
        refine Snd.value fun cx e g ac w V Fp h1 hok hA hp => ⟨_, ?_, esat_bool _⟩
        have ex := (Lst.op_esat hp hA h1 mx hx).str
        have ey := (Lst.op_esat hp hA h1 my hy).str
        simp only [execOp, ho, ex, ey, eqGuard_at_string, Sem.run_bind, run_strcmp hf t (a e) (b e), Result.andThen_ok]
        rfl
      · cases h
  · rename_i a b hx hy
    split at h
    · rename_i f hf
      split at h
      · rename_i ht
        obtain rfl := Option.some.inj h
        refine Snd.value fun cx e g ac w V Fp h1 hok hA hp => ⟨_, ?_, esat_bool _⟩
        have ex := (Lst.op_esat hp hA h1 mx hx).bool
        have ey := (Lst.op_esat hp hA h1 my hy).bool
        simp only [execOp, ho, ex, ey, eqGuard_at_bool, Sem.run_bind, run_boolop hf ht (a e) (b e), Result.andThen_ok]
        rfl
      · cases h
    · cases h
  · cases h
end
end Go.Lift

namespace Go.Lift
set_option linter.unusedVariables false
set_option linter.unusedSimpArgs false

def shalG {ι : Type} : Kt → List (St ι) → Bool
  | .sl _ e, .ix _ :: p => flatG e p
  | .ptr _ e, .ad :: p => flatG e p
  | .win (.sl _ e), .ix _ :: p => flatG e p
  | _, _ => false
  where
  flatG {ι : Type} : Kt → List (St ι) → Bool
  | _, [] => true
  | .pair a _, .l :: p => flatG a p
  | .pair _ b, .r :: p => flatG b p
  | .arr _ e, .ix _ :: p => flatG e p
  | .opt b a, .sm :: p => flatG a p
  | _, _ => false

theorem flatG_at {E : Type} (e : E) : ∀ (p : Path E) (k : Kt), flatp k (p.at e) = shalG.flatG k p
  | [], k => by cases k <;> rfl
  | s :: p, k => by
    cases k <;> cases s <;> first | rfl | exact flatG_at e p _
theorem shalG_at {E : Type} (e : E) (p : Path E) (k : Kt) : shal k (p.at e) = shalG k p := by
  cases p with
  | nil => cases k <;> first | rfl | (rename_i k; cases k <;> rfl)
  | cons s p =>
    cases k <;> cases s <;> first | rfl | exact flatG_at e p _ | skip
    all_goals first | (rename_i k; cases k <;> first | rfl | exact flatG_at e p _; done) | (rename_i k _; cases k <;> first | rfl | exact flatG_at e p _)

/-- A path of pair steps: its offset. -/
def foffS {E : Type} : Kt → Path E → Option Nat
  | _, [] => some 0
  | .pair a _, .l :: p => foffS a p
  | .pair a b, .r :: p => (foffS b p).map (a.size + ·)
  | _, _ => none
theorem foffS_at {E : Type} (e : E) : ∀ (p : Path E) (k : Kt) (n : Nat), foffS k p = some n → flatp k (p.at e) = true ∧ foff k (p.at e) = n
  | [], k, n, h => by
    have : n = 0 := by cases k <;> simp [foffS] at h <;> omega
    subst this
    cases k <;> exact ⟨rfl, rfl⟩
  | s :: p, k, n, h => by
    cases k <;> cases s <;> try (simp [foffS] at h; done)
    · exact foffS_at e p _ _ h
    · obtain ⟨m, h1, h2⟩ := Option.map_eq_some_iff.1 h
      obtain ⟨h3, h4⟩ := foffS_at e p _ _ h1
      refine ⟨h3, ?_⟩
      show _ + foff _ _ = n
      rw [← h2]
      exact congrArg _ h4

def noix {ι : Type} (p : List (St ι)) : Bool := p.all fun | .ix _ => false | .sm => false | _ => true
theorem noix_ok {E : Type} {p : Path E} {k : Kt} {m : Mk} {L : Lens E k} (h : LensIs k m p L) : noix p = true → ∀ e x, L.ok e x = true := by
  induction h with
  | nil => intro _ _ _; rfl
  | l h ih => intro hp e x; exact ih hp e x.1
  | r h ih => intro hp e x; exact ih hp e x.2
  | arr h ih => intro hp; simp [noix] at hp
  | sl h ih => intro hp; simp [noix] at hp
  | ad h ih => intro hp e x; exact ih hp e x
  | win h ih => intro hp; simp [noix] at hp
  | opt h ih => intro hp; simp [noix] at hp

section
variable {E : Type} {P : Program} {o : Oper} {s : Lst E} {gs : Gs}

/-- The test that a place is there. -/
def okChk (R : Root E) (p : Path E) (L : Lens E R.k) : Option (E → Bool) := if noix p then none else some fun e => L.ok e (R.x e)
theorem okChk_ok {R : Root E} {p : Path E} {L : Lens E R.k} (hL : lens R.k R.m p = some L) {es : List (Nat × Ent E)} {ru : List (Nat × Option (Root E))} {n : Nat} {e : E} (h : OR.ok ⟨okChk R p L, es, ru, n⟩ e = true) : L.ok e (R.x e) = true := by
  unfold okChk OR.ok at h
  by_cases hn : noix p = true
  · exact noix_ok (lens_is _ _ _ _ hL) hn e _
  · rw [if_neg hn] at h; exact h
def liveS (R : Root E) (hv : Nat) (p : Path E) : Bool := (shalG R.k p && (match R.m with | .ow _ => true | _ => false)) || decide (R.hv = hv)
theorem liveS_at {R : Root E} {hv : Nat} {p : Path E} (h : liveS R hv p = true) (e : E) : live (R.ev e) hv (p.at e) = true := by
  unfold live
  rw [shalG_at]
  exact h

/-- A slot seen as an address. -/
def Lst.addr (s : Lst E) (gs : Gs) : Ent E → Option (Ent E × Option (E → Bool))
  | .place k y => some (.place k y, none)
  | .loc r hv p => some (.loc r hv p, none)
  | .val (.ptr _ k) y => some (.place k y, none)
  | .own r => match s.root gs r with
    | some ⟨.ptr _ _, .ow _, hv, _⟩ => some (.loc r hv [.ad], none)
    | _ => none
  | .sub r hv p => match s.root gs r with
    | some R => if R.hv = hv then match lens R.k R.m p with
      | some ⟨.ptr _ _, .ow _, get, put, ok⟩ => some (.loc r R.hv (p ++ [.ad]), if noix p then none else some fun e => ok e (R.x e))
      | _ => none
      else none
    | none => none
  | _ => none

def chkHolds (c : Option (E → Bool)) (e : E) : Bool := match c with | none => true | some b => b e

theorem Lst.addr_roots {en en' : Ent E} {c : Option (E → Bool)} (h : s.addr gs en = some (en', c)) : ∀ r ∈ en'.roots, r ∈ en.roots := by
  unfold Lst.addr at h
  split at h
  · obtain ⟨rfl, _⟩ := Prod.mk.inj (Option.some.inj h); exact fun r hr => hr
  · obtain ⟨rfl, _⟩ := Prod.mk.inj (Option.some.inj h); exact fun r hr => hr
  · obtain ⟨rfl, _⟩ := Prod.mk.inj (Option.some.inj h); exact fun r hr => hr
  · split at h
    · obtain ⟨rfl, _⟩ := Prod.mk.inj (Option.some.inj h); exact fun r hr => hr
    · cases h
  · split at h
    · split at h
      · split at h
        · obtain ⟨rfl, _⟩ := Prod.mk.inj (Option.some.inj h); exact fun r hr => hr
        · cases h
      · cases h
    · cases h
  · cases h

theorem Lst.addr_esat {cx : Cx} {g : G} {a : Act} {w : World} {V : Nat → Value} {Fp : Nat → List Nat} {e : E} (hp : Pre cx g a w V Fp) (h1 : s.on gs e = true) {en en' : Ent E} {c : Option (E → Bool)} (h : s.addr gs en = some (en', c)) (hc : chkHolds c e = true) {v : Value}
    (hr : ∀ r ∈ en.roots, g.rt r = (s.gr e).rt r) (hv : ESat cx g.rt V Fp w (en.ev e) v) : ESat cx g.rt V Fp w (en'.ev e) v := by
  unfold Lst.addr at h
  split at h
  · obtain ⟨rfl, _⟩ := Prod.mk.inj (Option.some.inj h); exact hv
  · obtain ⟨rfl, _⟩ := Prod.mk.inj (Option.some.inj h); exact hv
  · obtain ⟨rfl, _⟩ := Prod.mk.inj (Option.some.inj h); exact esat_val_ptr hv
  · rename_i r
    split at h
    · rename_i T k m hv' x hR
      obtain ⟨rfl, _⟩ := Prod.mk.inj (Option.some.inj h)
      have h2 := hr r (List.mem_singleton_self _)
      rw [Lst.root_gr h1 hR] at h2
      exact hp.own_ptr h2 hv
    · cases h
  · rename_i r hv0 p
    split at h
    · rename_i R hR
      split at h
      · rename_i hh
        split at h
        · rename_i T k m get put ok hL
          obtain ⟨rfl, rfl⟩ := Prod.mk.inj (Option.some.inj h)
          have h2 := hr r (List.mem_singleton_self _)
          rw [Lst.root_gr h1 hR] at h2
          refine hp.sub_ptr (R := R.ev e) e hv h2 hh hL ?_ rfl
          unfold chkHolds at hc
          by_cases hn : noix p = true
          · exact noix_ok (lens_is _ _ _ _ hL) hn e _
          · rw [if_neg hn] at hc; exact hc
        · cases h
      · cases h
    · cases h
  · cases h

def andChk (a b : Option (E → Bool)) : Option (E → Bool) := match a, b with
  | none, b => b
  | a, none => a
  | some f, some g => some fun e => f e && g e
theorem andChk_holds {a b : Option (E → Bool)} {e : E} (h : chkHolds (andChk a b) e = true) : chkHolds a e = true ∧ chkHolds b e = true := by
  cases a <;> cases b <;> simp_all [andChk, chkHolds]
theorem OR.ok_holds (r : OR E) (e : E) : r.ok e = chkHolds r.chk e := by
  unfold OR.ok chkHolds
  cases r.chk <;> rfl
theorem okChk_holds {R : Root E} {p : Path E} {L : Lens E R.k} (hL : lens R.k R.m p = some L) {e : E} (h : chkHolds (okChk R p L) e = true) : L.ok e (R.x e) = true := by
  refine okChk_ok (es := []) (ru := []) (n := 0) hL ?_
  rw [OR.ok_holds]; exact h

/-- load -/
def c_load (P : Program) (s : Lst E) (gs : Gs) (t : TypeId) (x : Operand) : Option (OR E) :=
  match s.op gs x with
  | none => none
  | some en => match s.addr gs en with
    | some (.place k y, c) => if tyOk P t k then some ⟨c, [(0, .val k y)], [], 0⟩ else none
    | some (.loc r hv p, c) => match s.root gs r with
      | none => none
      | some R => if liveS R hv p then match lens R.k R.m p with
        | none => none
        | some L => if tyOk P t L.k' then
            if L.m'.free then some ⟨andChk c (okChk R p L), [(0, .val L.k' fun e => L.get e (R.x e))], [], 0⟩
            else if L.k'.isAgg then none
            else some ⟨andChk c (okChk R p L), [(0, .sub r R.hv p)], [], 0⟩
          else none
        else none
    | _ => none

theorem snd_load {t : TypeId} {x : Operand} {r : OR E} (ho : o.op = .load t x) (h : c_load P s gs t x = some r) : Snd P o s gs r := by
  unfold c_load at h
  have mx : x ∈ o.op.operands := by simp [ho, Op.operands]
  split at h
  · cases h
  rename_i en hen
  intro cx e g a w V Fp Q h1 hok hA hd hp
  have hx := Lst.op_esat hp hA h1 mx hen
  have hr := fun r => Lst.op_root hA mx hen (r := r)
  split at h
  · rename_i k y c hc
    split at h
    · rename_i ht
      obtain rfl := Option.some.inj h
      rw [OR.ok_holds] at hok
      rw [evs_one, rtU_nil]
      exact op_load_place hp ho (Lst.addr_esat hp h1 hc hok hr hx) ht hd
    · cases h
  · rename_i r hv p c hc
    split at h
    · cases h
    rename_i R hR
    split at h
    · rename_i hlv
      split at h
      · cases h
      rename_i L hL
      split at h
      · rename_i ht
        split at h
        · rename_i hf
          obtain rfl := Option.some.inj h
          rw [OR.ok_holds] at hok
          obtain ⟨k1, k2⟩ := andChk_holds hok
          rw [evs_one, rtU_nil]
          have hrt : g.rt r = _ := (hr r (Lst.addr_roots hc r (List.mem_singleton_self _))).trans (Lst.root_gr h1 hR)
          exact op_load_own (R := R.ev e) hp ho e (Lst.addr_esat hp h1 hc k1 hr hx) hrt (liveS_at hlv e) hL (okChk_holds hL k2) hf ht hd
        · split at h
          · cases h
          · rename_i hf ha
            obtain rfl := Option.some.inj h
            rw [OR.ok_holds] at hok
            obtain ⟨k1, k2⟩ := andChk_holds hok
            rw [evs_one, rtU_nil]
            have hrt : g.rt r = _ := (hr r (Lst.addr_roots hc r (List.mem_singleton_self _))).trans (Lst.root_gr h1 hR)
            exact op_load_sub (R := R.ev e) hp ho e (Lst.addr_esat hp h1 hc k1 hr hx) hrt (liveS_at hlv e) hL (okChk_holds hL k2) (by simpa using ha) ht hd
      · cases h
    · cases h
  · cases h

/-- The path to a field. -/
def fpath (E : Type) : Nat → Path E
  | 0 => [.l]
  | i + 1 => .r :: fpath E i

/-- fieldAddr -/
def c_field (P : Program) (s : Lst E) (gs : Gs) (t : TypeId) (x : Operand) (i : Nat) : Option (OR E) :=
  match s.op gs x with
  | none => none
  | some en => match s.addr gs en with
    | some (.place k y, c) => match lens (E := E) k .sh (fpath E i), foffS k (fpath E i) with
      | some L, some off => if structOk P t i off L.k'.size then some ⟨c, [(0, .place L.k' fun e => L.get e (y e))], [], 0⟩ else none
      | _, _ => none
    | some (.loc r hv p, c) => match s.root gs r with
      | none => none
      | some R => if liveS R hv p then match lens R.k R.m p with
        | none => none
        | some L => match foffS L.k' (fpath E i), lens (E := E) L.k' .sh (fpath E i) with
          | some off, some L2 => if structOk P t i off L2.k'.size then some ⟨andChk c (okChk R p L), [(0, .loc r R.hv (p ++ fpath E i))], [], 0⟩ else none
          | _, _ => none
        else none
    | _ => none

theorem noix_fpath (i : Nat) : noix (fpath E i) = true := by
  induction i with
  | zero => rfl
  | succ i ih => exact ih

theorem snd_field {t : TypeId} {x : Operand} {i : Nat} {r : OR E} (ho : o.op = .fieldAddr t x i) (h : c_field P s gs t x i = some r) : Snd P o s gs r := by
  unfold c_field at h
  have mx : x ∈ o.op.operands := by simp [ho, Op.operands]
  split at h
  · cases h
  rename_i en hen
  intro cx e g a w V Fp Q h1 hok hA hd hp
  have hx := Lst.op_esat hp hA h1 mx hen
  have hr := fun r => Lst.op_root hA mx hen (r := r)
  split at h
  · rename_i k y c hc
    split at h
    · rename_i L off hL hoff
      split at h
      · rename_i ht
        obtain rfl := Option.some.inj h
        rw [OR.ok_holds] at hok
        rw [evs_one, rtU_nil]
        obtain ⟨f1, f2⟩ := foffS_at e _ _ _ hoff
        exact op_field_place hp ho e (Lst.addr_esat hp h1 hc hok hr hx) hL (noix_ok (lens_is _ _ _ _ hL) (noix_fpath i) e _) f1 (by rw [f2]; exact ht) hd
      · cases h
    · cases h
  · rename_i r hv p c hc
    split at h
    · cases h
    rename_i R hR
    split at h
    · rename_i hlv
      split at h
      · cases h
      rename_i L hL
      split at h
      · rename_i off L2 hoff hL2
        split at h
        · rename_i ht
          obtain rfl := Option.some.inj h
          rw [OR.ok_holds] at hok
          obtain ⟨k1, k2⟩ := andChk_holds hok
          rw [evs_one, rtU_nil]
          have hrt : g.rt r = _ := (hr r (Lst.addr_roots hc r (List.mem_singleton_self _))).trans (Lst.root_gr h1 hR)
          obtain ⟨f1, f2⟩ := foffS_at e _ _ _ hoff
          exact op_field_loc (R := R.ev e) hp ho e (Lst.addr_esat hp h1 hc k1 hr hx) hrt (liveS_at hlv e) hL (okChk_holds hL k2) f1 (by rw [f2]; exact ht) hd
        · cases h
      · cases h
    · cases h
  · cases h
end
end Go.Lift

namespace Go.Lift
set_option linter.unusedVariables false
set_option linter.unusedSimpArgs false
section
variable {E : Type} {P : Program} {o : Oper} {s : Lst E} {gs : Gs}

/-- A test: a place is within a length. -/
def inB (i : E → Int) (n : E → Nat) : E → Bool := fun e => decide (0 ≤ i e) && decide (i e < (n e : Int))

/-- indexAddr -/
def c_index (P : Program) (s : Lst E) (gs : Gs) (t : TypeId) (x y : Operand) : Option (OR E) :=
  match s.opW gs x, s.opW gs y with
  | some en, some (.val (.int ik) i) => match en with
    | .val (.sl T e) xs => if sliceOk P t T e then some ⟨some (inB i fun ε => (xs ε).length), [(0, .place e fun ε => (xs ε).getD (i ε).toNat e.dflt)], [], 0⟩ else none
    | .own r => match s.root gs r with
      | some ⟨.sl T e, .ow m, hv, xs⟩ => if sliceOk P t T e then some ⟨some (inB i fun ε => (xs ε).length), [(0, .loc r hv [.ix fun ε => (i ε).toNat])], [], 0⟩ else none
      | _ => match s.addr gs en with
        | some (.loc r hv p, c) => match s.root gs r with
          | some R => if liveS R hv p then match lens R.k R.m p with
            | some ⟨.arr n e, m, get, put, ok⟩ => if arrayOk P t n e then some ⟨andChk (andChk c (okChk R p ⟨.arr n e, m, get, put, ok⟩)) (some (inB i fun _ => n)), [(0, .loc r R.hv (p ++ [.ix fun ε => (i ε).toNat]))], [], 0⟩ else none
            | _ => none
            else none
          | none => none
        | _ => none
    | .sub r hv p => match s.root gs r with
      | some R => if R.hv = hv then match lens R.k R.m p with
        | some ⟨.sl T e, .ow m, get, put, ok⟩ => if sliceOk P t T e then some ⟨andChk (okChk R p ⟨.sl T e, .ow m, get, put, ok⟩) (some (inB i fun ε => (get ε (R.x ε)).length)), [(0, .loc r R.hv (p ++ [.ix fun ε => (i ε).toNat]))], [], 0⟩ else none
        | _ => none
        else none
      | none => none
    | .place (.arr n e) xs => if arrayOk P t n e then some ⟨some (inB i fun _ => n), [(0, .place e fun ε => (xs ε).getD (i ε).toNat e.dflt)], [], 0⟩ else none
    | .loc r hv p => match s.root gs r with
      | some R => if liveS R hv p then match lens R.k R.m p with
        | some ⟨.arr n e, m, get, put, ok⟩ => if arrayOk P t n e then some ⟨andChk (okChk R p ⟨.arr n e, m, get, put, ok⟩) (some (inB i fun _ => n)), [(0, .loc r R.hv (p ++ [.ix fun ε => (i ε).toNat]))], [], 0⟩ else none
        | _ => none
        else none
      | none => none
    | _ => none
  | _, _ => none

theorem inB_spec {i : E → Int} {n : E → Nat} {e : E} (h : chkHolds (some (inB i n)) e = true) : 0 ≤ i e ∧ i e < (n e : Int) := by
  have h : inB i n e = true := h
  unfold inB at h
  simpa using h

theorem snd_index {t : TypeId} {x y : Operand} {r : OR E} (ho : o.op = .indexAddr t x y) (h : c_index P s gs t x y = some r) : Snd P o s gs r := by
  unfold c_index at h
  have mx : x ∈ o.op.operands := by simp [ho, Op.operands]
  have my : y ∈ o.op.operands := by simp [ho, Op.operands]
  split at h <;> try (cases h; done)
  rename_i en ik i hen hi
  intro cx e g a w V Fp Q h1 hok hA hd hp
  have hx := Lst.opW_esat hp hA h1 mx hen
  have hy := Lst.opW_esat hp hA h1 my hi
  have hr := fun r => Lst.opW_root hA mx hen (r := r)
  rw [OR.ok_holds] at hok
  split at h
  · split at h
    · rename_i ht
      obtain rfl := Option.some.inj h
      obtain ⟨b1, b2⟩ := inB_spec hok
      rw [evs_one, rtU_nil]
      exact op_index_val hp ho hx hy ht b1 b2 hd
    · cases h
  · rename_i r
    split at h
    · rename_i T el m hv xs hR
      split at h
      · rename_i ht
        obtain rfl := Option.some.inj h
        obtain ⟨b1, b2⟩ := inB_spec hok
        rw [evs_one, rtU_nil]
        exact op_index_own hp ho hx ((hr r (List.mem_singleton_self _)).trans (Lst.root_gr h1 hR)) hy ht b1 b2 hd
      · cases h
    · split at h
      · rename_i r' hv p c hc
        split at h
        · rename_i R hR
          split at h
          · rename_i hlv
            split at h
            · rename_i n el m get put ok hL
              split at h
              · rename_i ht
                obtain rfl := Option.some.inj h
                obtain ⟨k1, k2⟩ := andChk_holds hok
                obtain ⟨k3, k4⟩ := andChk_holds k1
                obtain ⟨b1, b2⟩ := inB_spec k2
                rw [evs_one, rtU_nil]
                have hrt : g.rt r' = _ := (hr r' (Lst.addr_roots hc r' (List.mem_singleton_self _))).trans (Lst.root_gr h1 hR)
                exact op_index_loc (R := R.ev e) hp ho e (Lst.addr_esat hp h1 hc k3 hr hx) hrt (liveS_at hlv e) hL (okChk_holds hL k4) hy ht b1 b2 rfl hd
              · cases h
            · cases h
          · cases h
        · cases h
      · cases h
  · rename_i r hv p
    split at h
    · rename_i R hR
      split at h
      · rename_i hh
        split at h
        · rename_i T el m get put ok hL
          split at h
          · rename_i ht
            obtain rfl := Option.some.inj h
            obtain ⟨k1, k2⟩ := andChk_holds hok
            obtain ⟨b1, b2⟩ := inB_spec k2
            rw [evs_one, rtU_nil]
            have hrt : g.rt r = _ := (hr r (List.mem_singleton_self _)).trans (Lst.root_gr h1 hR)
            exact op_index_sub (R := R.ev e) hp ho e hx hrt hh hL (okChk_holds hL k1) hy ht b1 b2 rfl hd
          · cases h
        · cases h
      · cases h
    · cases h
  · split at h
    · rename_i ht
      obtain rfl := Option.some.inj h
      obtain ⟨b1, b2⟩ := inB_spec hok
      rw [evs_one, rtU_nil]
      exact op_index_place hp ho hx hy ht b1 b2 hd
    · cases h
  · rename_i r hv p
    split at h
    · rename_i R hR
      split at h
      · rename_i hlv
        split at h
        · rename_i n el m get put ok hL
          split at h
          · rename_i ht
            obtain rfl := Option.some.inj h
            obtain ⟨k1, k2⟩ := andChk_holds hok
            obtain ⟨b1, b2⟩ := inB_spec k2
            rw [evs_one, rtU_nil]
            have hrt : g.rt r = _ := (hr r (List.mem_singleton_self _)).trans (Lst.root_gr h1 hR)
            exact op_index_loc (R := R.ev e) hp ho e hx hrt (liveS_at hlv e) hL (okChk_holds hL k1) hy ht b1 b2 rfl hd
          · cases h
        · cases h
      · cases h
    · cases h
  · cases h

/-! ### new variables -/
def c_alloc (P : Program) (s : Lst E) (T : TypeId) (k : Kt) : Option (OR E) := if zeroOk P T k then some ⟨none, [(0, .own s.nx)], [(s.nx, some ⟨.ptr T k, .ow (zm k), 0, fun _ => k.dflt⟩)], 1⟩ else none
theorem snd_alloc {T : TypeId} {k : Kt} {r : OR E} (ho : o.op = .alloc T) (h : c_alloc P s T k = some r) : Snd P o s gs r := by
  unfold c_alloc at h
  split at h
  · rename_i hz
    obtain rfl := Option.some.inj h
    intro cx e g a w V Fp Q h1 hok hA hd hp
    rw [evs_one, rtU_cons, rtU_nil]
    exact op_alloc hp ho hz (by have := hA.new 0 (by simp); simpa using this) hd
  · cases h
def c_box (s : Lst E) (gs : Gs) (T : TypeId) (x : Operand) : Option (OR E) := match s.op gs x with
  | some (.val k y) => some ⟨none, [(0, .own s.nx)], [(s.nx, some ⟨.ptr T k, .ow .sh, 0, y⟩)], 1⟩
  | _ => none
theorem snd_box {T : TypeId} {x : Operand} {r : OR E} (ho : o.op = .box T x) (h : c_box s gs T x = some r) : Snd P o s gs r := by
  unfold c_box at h
  have mx : x ∈ o.op.operands := by simp [ho, Op.operands]
  split at h
  · rename_i k y hx
    obtain rfl := Option.some.inj h
    intro cx e g a w V Fp Q h1 hok hA hd hp
    rw [evs_one, rtU_cons, rtU_nil]
    exact op_box hp ho (Lst.op_esat hp hA h1 mx hx) (by have := hA.new 0 (by simp); simpa using this) hd
  · cases h

/-! ### store -/
def mzero : Kt → Option Mk
  | .sl _ e => some (.ow (zm e))
  | _ => none
def Mk.isOw : Mk → Bool
  | .ow _ => true
  | _ => false
def c_store (P : Program) (s : Lst E) (gs : Gs) (t : TypeId) (x y : Operand) : Option (OR E) :=
  match s.op gs x, s.op gs y with
  | some en, some ey => match s.addr gs en with
    | some (.loc r hv p, c) => match s.root gs r with
      | some R => if liveS R hv p && R.m.isOw then match lens R.k R.m p with
        | some L => if tyOk P t L.k' then
            match ey with
            | .val k z => if hk : k = L.k' then
                let mn := if L.m'.free then L.m' else .sh
                match mset R.k R.m p.sh mn with
                | some mr => some ⟨andChk c (okChk R p L), [], [(r, some ⟨R.k, mr, R.hv + 1, fun e => L.put e (R.x e) (hk ▸ z e)⟩)], 1⟩
                | none => none
              else none
            | .own q => if q = r then none else match s.root gs q with
              | some Rq => if hk : Rq.k = L.k' then match mset R.k R.m p.sh Rq.m with
                | some mr => some ⟨andChk c (okChk R p L), [], [(r, some ⟨R.k, mr, R.hv + 1, fun e => L.put e (R.x e) (hk ▸ Rq.x e)⟩), (q, none)], 0⟩
                | none => none
                else none
              | none => none
            | .cst (.slice none 0 0) => match L with
              | ⟨.sl T e, m', get, put, ok⟩ =>
                let mn := match m' with | .ow m => .ow m | _ => .ow (zm e)
                match mset R.k R.m p.sh mn with
                | some mr => some ⟨andChk c (okChk R p ⟨.sl T e, m', get, put, ok⟩), [], [(r, some ⟨R.k, mr, R.hv + 1, fun e => put e (R.x e) []⟩)], 1⟩
                | none => none
              | ⟨.win (.sl T e), m', get, put, ok⟩ =>
                let mn := match m' with | .ow m => .ow m | _ => .ow (zm e)
                match mset R.k R.m p.sh mn with
                | some mr => some ⟨andChk c (okChk R p ⟨.win (.sl T e), m', get, put, ok⟩), [], [(r, some ⟨R.k, mr, R.hv + 1, fun e => put e (R.x e) ([], 0)⟩)], 1⟩
                | none => none
              | _ => none
            | _ => none
          else none
        | none => none
        else none
      | none => none
    | _ => none
  | _, _ => none

theorem how_of {m : Mk} (h : m.isOw = true) : ∃ m1, m = .ow m1 := by
  cases m <;> first | exact ⟨_, rfl⟩ | cases h

theorem snd_store {t : TypeId} {x y : Operand} {r : OR E} (ho : o.op = .store t x y) (hdst : o.dst = none) (h : c_store P s gs t x y = some r) : Snd P o s gs r := by
  unfold c_store at h
  have mx : x ∈ o.op.operands := by simp [ho, Op.operands]
  have my : y ∈ o.op.operands := by simp [ho, Op.operands]
  split at h <;> try (cases h; done)
  rename_i en ey hen hey
  intro cx e g a w V Fp Q h1 hok hA hd hp
  have hx := Lst.op_esat hp hA h1 mx hen
  have hy := Lst.op_esat hp hA h1 my hey
  have hr := fun r => Lst.op_root hA mx hen (r := r)
  have hry := fun r => Lst.op_root hA my hey (r := r)
  rw [OR.ok_holds] at hok
  split at h <;> try (cases h; done)
  rename_i r hv p c hc
  split at h <;> try (cases h; done)
  rename_i R hR
  split at h <;> try (cases h; done)
  rename_i hlv
  rw [Bool.and_eq_true] at hlv
  obtain ⟨hlv, how⟩ := hlv
  split at h <;> try (cases h; done)
  rename_i L hL
  split at h <;> try (cases h; done)
  rename_i ht
  have hrt : g.rt r = _ := (hr r (Lst.addr_roots hc r (List.mem_singleton_self _))).trans (Lst.root_gr h1 hR)
  have noes : evs ([] : List (Nat × Ent E)) e = fun _ => none := rfl
  split at h
  · rename_i k z
    split at h
    · rename_i hk
      subst hk
      dsimp only at h
      split at h
      · rename_i mr hms
        obtain rfl := Option.some.inj h
        obtain ⟨k1, k2⟩ := andChk_holds hok
        rw [noes, rtU_cons, rtU_nil]
        have hnew : g.rt s.nx = none := by have := hA.new 0 (by simp); simpa using this
        have hne : s.nx ≠ r := fun e => by rw [e, hrt] at hnew; cases hnew
        have hF : Fp s.nx = [] := hp.mem.none _ (by rw [hnew]; simp)
        obtain ⟨z1, z2⟩ := esat_cells hy
        refine op_store (R := R.ev e) hp ho e (Lst.addr_esat hp h1 hc k1 hr hx) hrt (liveS_at hlv e) hL (okChk_holds hL k2) ht s.nx hne (how_of how) hms (y' := z e) ⟨z2, ?_⟩ (by rw [hF]; simp) (upd_same _ _ _) (.inl ⟨upd_ne _ _ hne, hF⟩) (fun h => by rw [upd_ne _ _ hne, hnew] at h; cases h) (fun q h1 h2 => upd_ne _ _ h1) hdst
        rw [hF]
        split
        · rename_i hf; exact Rz_unfree _ _ _ _ hf z1
        · exact z1
      · cases h
    · cases h
  · rename_i q
    split at h
    · cases h
    rename_i hqr
    split at h <;> try (cases h; done)
    rename_i Rq hRq
    split at h <;> try (cases h; done)
    rename_i hk
    split at h <;> try (cases h; done)
    rename_i mr hms
    obtain rfl := Option.some.inj h
    obtain ⟨k1, k2⟩ := andChk_holds hok
    rw [noes, rtU_cons, rtU_cons, rtU_nil]
    have hrq : g.rt q = _ := (hry q (List.mem_singleton_self _)).trans (Lst.root_gr h1 hRq)
    obtain ⟨R0, h3, h4⟩ := hy
    rw [hrq] at h3
    obtain rfl := Option.some.inj h3
    have hvv := h4 (by simp)
    obtain ⟨cs, z1, z2⟩ := hp.mem.roots q _ hrq
    have hcs : (a.eval y).cells.toList = cs := by
      rw [hvv]
      unfold Shows at z1
      split at z1
      · rw [z1]; rfl
      · rw [z1] at z2
        have := Rz_one _ _ _ _ _ _ _ z2 (V q) (List.mem_singleton_self _)
        rw [z1]
        cases hv : V q <;> rw [hv] at this <;> first | rfl | (simp [Value.oneCell'] at this; done)
    refine op_store (R := R.ev e) hp ho e (Lst.addr_esat hp h1 hc k1 hr hx) hrt (liveS_at hlv e) hL (okChk_holds hL k2) ht q hqr (how_of how) hms (y' := hk ▸ Rq.x e) ⟨?_, ?_⟩ (fun _ => ⟨_, hrq⟩) (upd_same _ _ _) (.inr (by rw [upd_ne _ _ hqr, upd_same]; rfl)) (fun _ => ⟨_, hrq⟩) (fun q' h1 h2 => by rw [upd_ne _ _ h1, upd_ne _ _ h2]) hdst
    · rw [hcs, hvv, ← hk]; exact z1
    · rw [hcs]
      have aux : ∀ {k k' : Kt} (h : k = k') (x : k.T), Rz w (cx.Sh Fp) k Rq.m (Fp q) x cs → Rz w (cx.Sh Fp) k' Rq.m (Fp q) (h ▸ x) cs := by
        intro k k' h x hz; subst h; exact hz
      exact aux hk _ z2
  · split at h <;> try (cases h; done)
    · rename_i T el m' get put ok
      dsimp only at h
      split at h
      · rename_i mr hms
        obtain rfl := Option.some.inj h
        obtain ⟨k1, k2⟩ := andChk_holds hok
        rw [noes, rtU_cons, rtU_nil]
        have hnew : g.rt s.nx = none := by have := hA.new 0 (by simp); simpa using this
        have hne : s.nx ≠ r := fun e => by rw [e, hrt] at hnew; cases hnew
        have hF : Fp s.nx = [] := hp.mem.none _ (by rw [hnew]; simp)
        have hv : a.eval y = .slice none 0 0 := hy
        refine op_store (R := R.ev e) hp ho e (Lst.addr_esat hp h1 hc k1 hr hx) hrt (liveS_at hlv e) hL (okChk_holds hL k2) ht s.nx hne (how_of how) hms (y' := ([] : List el.T)) ⟨?_, ?_⟩ (by rw [hF]; simp) (upd_same _ _ _) (.inl ⟨upd_ne _ _ hne, hF⟩) (fun h => by rw [upd_ne _ _ hne, hnew] at h; cases h) (fun q h1 h2 => upd_ne _ _ h1) hdst
        · rw [hv]; rfl
        · rw [hF, hv]
          split
          · exact .inl ⟨rfl, rfl, rfl⟩
          · exact .inl ⟨rfl, rfl, rfl⟩
      · cases h
    · rename_i T el m' get put ok
      dsimp only at h
      split at h
      · rename_i mr hms
        obtain rfl := Option.some.inj h
        obtain ⟨k1, k2⟩ := andChk_holds hok
        rw [noes, rtU_cons, rtU_nil]
        have hnew : g.rt s.nx = none := by have := hA.new 0 (by simp); simpa using this
        have hne : s.nx ≠ r := fun e => by rw [e, hrt] at hnew; cases hnew
        have hF : Fp s.nx = [] := hp.mem.none _ (by rw [hnew]; simp)
        have hv : a.eval y = .slice none 0 0 := hy
        refine op_store (R := R.ev e) hp ho e (Lst.addr_esat hp h1 hc k1 hr hx) hrt (liveS_at hlv e) hL (okChk_holds hL k2) ht s.nx hne (how_of how) hms (y' := (([], 0) : List el.T × Nat)) ⟨?_, ?_⟩ (by rw [hF]; simp) (upd_same _ _ _) (.inl ⟨upd_ne _ _ hne, hF⟩) (fun h => by rw [upd_ne _ _ hne, hnew] at h; cases h) (fun q h1 h2 => upd_ne _ _ h1) hdst
        · rw [hv]; rfl
        · rw [hF, hv]
          split
          · exact .inr ⟨by simp, none, 0, 0, rfl, Nat.le_refl _, .inl ⟨rfl, rfl, rfl⟩⟩
          · exact .inr ⟨by simp, none, 0, 0, rfl, Nat.le_refl _, .inl ⟨rfl, rfl, rfl⟩⟩
      · cases h
  · cases h
end
end Go.Lift

namespace Go.Lift
set_option linter.unusedVariables false
set_option linter.unusedSimpArgs false

/-- Bytes as a string. -/
def bstr (ns : List Int) : ByteArray := ns.foldl (fun r n => r.push (UInt8.ofNat n.toNat)) ByteArray.empty
/-- A string's bytes. -/
def sbytes (s : ByteArray) : List Int := s.data.toList.map fun b => (b.toNat : Int)
theorem sbytes_length (s : ByteArray) : (sbytes s).length = s.size := by
  unfold sbytes
  rw [List.length_map, Array.length_toList]; rfl

section
variable {E : Type} {P : Program} {o : Oper} {s : Lst E} {gs : Gs}

/-! ### unOp -/
def c_un (s : Lst E) (gs : Gs) (op : UnOp) (x : Operand) : Option (OR E) := match op, s.op gs x with
  | .neg, some (.val (.int k) a) => some (cVal (.val (.int k) fun e => k.wrap (0 - a e)))
  | .not, some (.val .bool a) => some (cVal (.val .bool fun e => !a e))
  | .xor, some (.val (.int k) a) => some (cVal (.val (.int k) fun e => k.wrap ((BitVec.ofInt k.bits (if k.signed then -1 else k.max) ^^^ BitVec.ofInt k.bits (a e)).toNat : Nat)))
  | _, _ => none
theorem snd_un {op : UnOp} {t : TypeId} {x : Operand} {r : OR E} (ho : o.op = .unOp op t x) (h : c_un s gs op x = some r) : Snd P o s gs r := by
  unfold c_un at h
  have mx : x ∈ o.op.operands := by simp [ho, Op.operands]
  split at h <;> try (cases h; done)
  · rename_i k a hx
    obtain rfl := Option.some.inj h
    refine Snd.value fun cx e g ac w V Fp h1 hok hA hp => ⟨_, ?_, esat_int _ _⟩
    simp [execOp, ho, (Lst.op_esat hp hA h1 mx hx).int, Op.unary, Op.intArith]
  · rename_i a hx
    obtain rfl := Option.some.inj h
    refine Snd.value fun cx e g ac w V Fp h1 hok hA hp => ⟨_, ?_, esat_bool _⟩
    simp [execOp, ho, (Lst.op_esat hp hA h1 mx hx).bool, Op.unary]
  · rename_i k a hx
    obtain rfl := Option.some.inj h
    refine Snd.value fun cx e g ac w V Fp h1 hok hA hp => ⟨_, ?_, esat_int _ _⟩
    simp [execOp, ho, (Lst.op_esat hp hA h1 mx hx).int, Op.unary, Op.intBits]

/-! ### extract -/
def c_extract (s : Lst E) (gs : Gs) (x : Operand) (i : Nat) : Option (OR E) := match x with
  | .tmp t => (s.at gs (t, i + 1)).map cVal
  | _ => none
theorem snd_extract {x : Operand} {i : Nat} {r : OR E} (ho : o.op = .extract x i) (h : c_extract s gs x i = some r) : Snd P o s gs r := by
  unfold c_extract at h
  have mx : x ∈ o.op.operands := by simp [ho, Op.operands]
  split at h <;> try (cases h; done)
  rename_i t
  obtain ⟨en, hen, rfl⟩ := Option.map_eq_some_iff.1 h
  refine Snd.value fun cx e g ac w V Fp h1 hok hA hp => ?_
  have h2 := Lst.at_gr hen h1
  rw [← hA.tm t (mem_opTmps mx rfl) (i + 1)] at h2
  obtain ⟨v, u, h3, h4, h5⟩ := hp.ents t (i + 1) _ h2
  have hv : ac.eval (.tmp t) = v := by simp [Act.eval, h3]
  refine ⟨u, ?_, h5⟩
  unfold part at h4
  cases v <;> simp only [] at h4 <;> try (cases h4; done)
  rename_i vs
  simp [execOp, ho, hv, Instr.extract, h4]

/-! ### len -/
theorem Pre.own_len {cx : Cx} {g : G} {a : Act} {w : World} {V : Nat → Value} {Fp : Nat → List Nat} (h : Pre cx g a w V Fp) {r : Nat} {T : TypeId} {e : Kt} {m : Mk} {hv : Nat} {xs : List e.T} {v : Value} (hx : ESat cx g.rt V Fp w (.own r) v) (hr : g.rt r = some (some ⟨.sl T e, .ow m, hv, xs⟩)) : ∃ A cap, v = .slice A xs.length cap := by
  obtain ⟨R, hr', hv'⟩ := hx
  rw [hr] at hr'
  obtain rfl := Option.some.inj hr'
  have hvv := hv' (by simp)
  clear hv'
  obtain ⟨cs, k1, k2⟩ := h.mem.roots r _ hr
  simp [Shows, Kt.isAgg] at k1
  subst k1
  rcases k2 with ⟨_, rfl, k3⟩ | ⟨b, cap, C, Fe, k3, _⟩
  · exact ⟨none, 0, hvv.trans (List.cons.inj k3).1⟩
  · exact ⟨_, cap, hvv.trans (List.cons.inj k3).1⟩
theorem Pre.sub_len {cx : Cx} {g : G} {a : Act} {w : World} {V : Nat → Value} {Fp : Nat → List Nat} (h : Pre cx g a w V Fp) {r hv : Nat} {R : GRoot} (e : E) {p : Path E} {T : TypeId} {el : Kt} {m : Mk} {get : E → R.k.T → List el.T} {put : E → R.k.T → List el.T → R.k.T} {ok : E → R.k.T → Bool} {v : Value}
    (hx : ESat cx g.rt V Fp w (.sub r hv (p.at e)) v) (hr : g.rt r = some (some R)) (hhv : R.hv = hv) (hL : lens R.k R.m p = some ⟨.sl T el, .ow m, get, put, ok⟩) (hok : ok e R.x = true) : ∃ A cap, v = .slice A (get e R.x).length cap := by
  obtain ⟨R0, h2, h3⟩ := hx
  rw [hr] at h2
  obtain rfl := Option.some.inj h2
  have hg : gok R.k R.m R.x (p.at e) = true := by rw [← gok_lens e (lens_is _ _ _ _ hL)]; exact hok
  obtain ⟨b, o', hb, h4, h5⟩ := (h3 R rfl).2 hhv hg
  obtain ⟨Fo, c, h6, h7, h8⟩ := h.comp hr e hL hok
  rcases h6 with ⟨_, k1, k3⟩ | ⟨b', cap, C, Fe, k3, _⟩
  · have k1 : get e R.x = [] := k1
    have := (h8 b o' h4).1 0 _ (by rw [k3]; rfl)
    rw [Nat.add_zero, h5] at this
    exact ⟨none, 0, by rw [k1]; exact Option.some.inj this⟩
  · have := (h8 b o' h4).1 0 _ (by rw [k3]; rfl)
    rw [Nat.add_zero, h5] at this
    exact ⟨_, cap, Option.some.inj this⟩

def isSlice (P : Program) (t : TypeId) : Bool := match P.underlying t with | some (.slice _) => true | _ => false
theorem isSlice_spec {t : TypeId} (h : isSlice P t = true) : ∃ T, P.underlying t = some (.slice T) := by
  unfold isSlice at h
  split at h
  · exact ⟨_, ‹_›⟩
  · cases h
def c_len (P : Program) (s : Lst E) (gs : Gs) (t : TypeId) (x : Operand) : Option (OR E) := match s.opW gs x with
  | some (.val .str a) => match P.underlying t with
    | some .string => some (cVal (.val (.int .i64) fun e => ((a e).size : Int)))
    | _ => none
  | some (.val (.sl _ _) a) => if isSlice P t then some (cVal (.val (.int .i64) fun e => ((a e).length : Int))) else none
  | some (.own r) => match s.root gs r with
    | some ⟨.sl _ _, .ow _, _, xs⟩ => if isSlice P t then some (cVal (.val (.int .i64) fun e => ((xs e).length : Int))) else none
    | _ => none
  | some (.sub r hv p) => match s.root gs r with
    | some R => if R.hv = hv then match lens R.k R.m p with
      | some ⟨.sl T e, .ow m, get, put, ok⟩ => if isSlice P t then some ⟨okChk R p ⟨.sl T e, .ow m, get, put, ok⟩, [(0, .val (.int .i64) fun ε => ((get ε (R.x ε)).length : Int))], [], 0⟩ else none
      | _ => none
      else none
    | none => none
  | some (.cst (.slice none 0 0)) => if isSlice P t then some (cVal (.val (.int .i64) fun _ => 0)) else none
  | _ => none

theorem run_len {t ty T : TypeId} (h : P.underlying t = some (.slice T)) (A : Option Addr) (n c : Nat) (w : World) : (Builtin.len_ #[t] ty #[.slice A n c]).run P w = .ok (.int .i64 n) w := by
  simp [Builtin.len_, run_underlying h, goInt]
theorem run_len_str {t ty : TypeId} (h : P.underlying t = some .string) (x : ByteArray) (w : World) : (Builtin.len_ #[t] ty #[.string x]).run P w = .ok (.int .i64 x.size) w := by
  simp [Builtin.len_, run_underlying h, goInt]

theorem snd_len {t : TypeId} {x : Operand} {r : OR E} (ho : o.op = .call { callee := .builtin .len, args := #[x], argTypes := #[t] }) (h : c_len P s gs t x = some r) : Snd P o s gs r := by
  unfold c_len at h
  have mx : x ∈ o.op.operands := by simp [ho, Op.operands, Call.operands]
  have run : ∀ {a : Act} {w : World} {v u : Value}, a.eval x = v → (∀ ty, (Builtin.len_ #[t] ty #[v]).run P w = .ok u w) → (execOp a.eval o).run P w = .ok (.value u) w := by
    intro a w v u h1 h2
    simp only [execOp, ho, resolve, Sem.run_bind, invoke, builtin]
    simp [h1, h2]
  split at h <;> try (cases h; done)
  · rename_i a hx
    split at h <;> try (cases h; done)
    rename_i ht
    obtain rfl := Option.some.inj h
    refine Snd.value fun cx e g ac w V Fp h1 hok hA hp => ⟨_, ?_, esat_int _ _⟩
    exact run (Lst.opW_esat hp hA h1 mx hx).str fun ty => run_len_str ht _ _
  · rename_i T k a hx
    split at h <;> try (cases h; done)
    rename_i ht
    obtain rfl := Option.some.inj h
    obtain ⟨T', hu⟩ := isSlice_spec ht
    refine Snd.value fun cx e g ac w V Fp h1 hok hA hp => ⟨_, ?_, esat_int _ _⟩
    obtain ⟨A, cap, h2, _⟩ := (Lst.opW_esat hp hA h1 mx hx).sl
    exact run h2 fun ty => run_len hu _ _ _ _
  · rename_i r hx
    split at h <;> try (cases h; done)
    rename_i T k m hv xs hR
    split at h <;> try (cases h; done)
    rename_i ht
    obtain rfl := Option.some.inj h
    obtain ⟨T', hu⟩ := isSlice_spec ht
    refine Snd.value fun cx e g ac w V Fp h1 hok hA hp => ⟨_, ?_, esat_int _ _⟩
    obtain ⟨A, cap, h2⟩ := hp.own_len (Lst.opW_esat hp hA h1 mx hx) ((Lst.opW_root hA mx hx (List.mem_singleton_self _)).trans (Lst.root_gr h1 hR))
    exact run h2 fun ty => run_len hu _ _ _ _
  · rename_i r hv p hx
    split at h <;> try (cases h; done)
    rename_i R hR
    split at h <;> try (cases h; done)
    rename_i hh
    split at h <;> try (cases h; done)
    rename_i T k m get put ok hL
    split at h <;> try (cases h; done)
    rename_i ht
    obtain rfl := Option.some.inj h
    obtain ⟨T', hu⟩ := isSlice_spec ht
    refine Snd.value fun cx e g ac w V Fp h1 hok hA hp => ⟨_, ?_, esat_int _ _⟩
    rw [OR.ok_holds] at hok
    obtain ⟨A, cap, h2⟩ := hp.sub_len (R := R.ev e) e (Lst.opW_esat hp hA h1 mx hx) ((Lst.opW_root hA mx hx (List.mem_singleton_self _)).trans (Lst.root_gr h1 hR)) hh hL (okChk_holds hL hok)
    exact run h2 fun ty => run_len hu _ _ _ _
  · rename_i hx
    split at h <;> try (cases h; done)
    rename_i ht
    obtain rfl := Option.some.inj h
    obtain ⟨T', hu⟩ := isSlice_spec ht
    refine Snd.value fun cx e g ac w V Fp h1 hok hA hp => ⟨_, ?_, esat_int _ _⟩
    have h2 : ac.eval x = .slice none 0 0 := Lst.opW_esat hp hA h1 mx hx
    exact run h2 fun ty => run_len hu _ _ _ _

/-! ### index of a string -/
def c_at (P : Program) (s : Lst E) (gs : Gs) (t : TypeId) (x y : Operand) : Option (OR E) := match s.op gs x, s.op gs y with
  | some (.val .str a), some (.val (.int _) i) => match P.underlying t with
    | some .string => some ⟨some (inB i fun e => (a e).size), [(0, .val (.int .u8) fun e => ((a e).data.getD (i e).toNat 0).toNat)], [], 0⟩
    | _ => none
  | _, _ => none
theorem snd_at {t : TypeId} {x y : Operand} {r : OR E} (ho : o.op = .index t x y) (h : c_at P s gs t x y = some r) : Snd P o s gs r := by
  unfold c_at at h
  have mx : x ∈ o.op.operands := by simp [ho, Op.operands]
  have my : y ∈ o.op.operands := by simp [ho, Op.operands]
  split at h <;> try (cases h; done)
  rename_i a k i hx hy
  split at h <;> try (cases h; done)
  rename_i ht
  obtain rfl := Option.some.inj h
  refine Snd.value fun cx e g ac w V Fp h1 hok hA hp => ⟨_, ?_, esat_int _ _⟩
  rw [OR.ok_holds] at hok
  obtain ⟨b1, b2⟩ := inB_spec hok
  have hi : (i e).toNat < (a e).size := by omega
  have hi' : (i e).toNat < (a e).data.size := hi
  have hg : (a e)[(i e).toNat]? = some ((a e).data.getD (i e).toNat 0) := by
    rw [getElem?_pos (a e) (i e).toNat hi]
    simp only [Array.getD, hi', dif_pos]
    rfl
  simp [execOp, ho, (Lst.op_esat hp hA h1 mx hx).str, (Lst.op_esat hp hA h1 my hy).int, Instr.index, run_underlying ht, asIntOf, b1, hg]
end
end Go.Lift

namespace Go.Lift
set_option linter.unusedVariables false
set_option linter.unusedSimpArgs false
section
variable {E : Type} {P : Program} {o : Oper} {s : Lst E} {gs : Gs}

/-! ### pick -/
def selK (k : Kt) (c : Bool) (a b : k.T) : k.T := if c then a else b
def c_pick (s : Lst E) (gs : Gs) (c a b : Operand) : Option (OR E) := match c with
  | .tmp t => match s.at gs (t, 0), s.op ((t, true) :: gs) a, s.op ((t, false) :: gs) b with
    | some (.val .bool f), some (.val k x), some (.val k' y) => if hk : k' = k then some (cVal (.val k fun e => if f e then x e else hk ▸ y e)) else none
    | _, _, _ => none
  | _ => none

theorem at_gval {t : Tmp} {f : E → Bool} (h : s.at gs (t, 0) = some (.val .bool f)) : s.gval t = some f := by
  unfold Lst.at at h
  unfold Lst.gval
  split at h
  · rename_i sl hsl
    split at h
    · have h := Option.some.inj h
      obtain ⟨g0, en⟩ := sl
      have h : en = .val .bool f := h
      subst h
      rw [hsl]
    · cases h
  · cases h

theorem snd_pick {c a b : Operand} {r : OR E} (ho : o.op = .pick c a b) (h : c_pick s gs c a b = some r) : Snd P o s gs r := by
  unfold c_pick at h
  have mc : c ∈ o.op.operands := by simp [ho, Op.operands]
  have ma : a ∈ o.op.operands := by simp [ho, Op.operands]
  have mb : b ∈ o.op.operands := by simp [ho, Op.operands]
  split at h <;> try (cases h; done)
  rename_i t
  split at h <;> try (cases h; done)
  rename_i f k x k' y hc ha hb
  split at h <;> try (cases h; done)
  rename_i hk
  obtain rfl := Option.some.inj h
  subst hk
  refine Snd.value fun cx e g ac w V Fp h1 hok hA hp => ?_
  have ec := (Lst.op_esat (x := .tmp t) hp hA h1 mc hc).bool
  have hon : ∀ bo, f e = bo → s.on ((t, bo) :: gs) e = true := by
    intro bo hb
    unfold Lst.on at h1 ⊢
    rw [List.all_cons, h1, at_gval hc]
    simp [hb]
  cases hf : f e with
  | true =>
    have ea := Lst.op_esat hp hA (hon true hf) ma ha
    refine ⟨ac.eval a, ?_, ?_⟩
    · simp [execOp, ho, ec, hf, asBool]
    · show ESat _ _ _ _ _ (.val _ (if f e then x e else y e)) _
      rw [hf]; exact ea
  | false =>
    have eb := Lst.op_esat hp hA (hon false hf) mb hb
    refine ⟨ac.eval b, ?_, ?_⟩
    · simp [execOp, ho, ec, hf, asBool]
    · show ESat _ _ _ _ _ (.val _ (if f e then x e else y e)) _
      rw [hf]; exact eb

/-! ### append -/
/-- What an append's second argument yields; the slice's element kind. -/
def c_src (P : Program) (s : Lst E) (gs : Gs) (t2 : TypeId) (T : TypeId) (e : Kt) (y : Operand) : Option (E → List e.T) := match s.opW gs y with
  | some (.val (.sl T' e') ys) => match P.underlying t2 with
    | some (.slice T2) => if T2 = T' then if h : e' = e then some fun ε => h ▸ ys ε else none else none
    | _ => none
  | some (.own r) => match s.root gs r with
    | some ⟨.sl T' e', .ow m, _, ys⟩ => match P.underlying t2 with
      | some (.slice T2) => if T2 = T' ∧ m.free = true then if h : e' = e then some fun ε => h ▸ ys ε else none else none
      | _ => none
    | _ => none
  | some (.val .str a) => match P.underlying t2 with
    | some .string => if h : .int .u8 = e then some fun ε => h ▸ sbytes (a ε) else none
    | _ => none
  | some (.cst (.slice none 0 0)) => match P.underlying t2 with
    | some (.slice _) => some fun _ => []
    | _ => none
  | _ => none

theorem c_src_spec {t2 T : TypeId} {el : Kt} {y : Operand} {ys : E → List el.T} (h : c_src P s gs t2 T el y = some ys) {cx : Cx} {g : G} {a : Act} {w : World} {V : Nat → Value} {Fp : Nat → List Nat} {e : E} {n : Nat} (hp : Pre cx g a w V Fp) (hA : Agree g s e (opTmps o) n) (h1 : s.on gs e = true) (my : y ∈ o.op.operands) :
    AppSrc P cx Fp w el t2 (a.eval y) (ys e) := by
  unfold c_src at h
  split at h <;> try (cases h; done)
  · rename_i T' e' ys' hy
    split at h <;> try (cases h; done)
    rename_i T2 hu
    split at h <;> try (cases h; done)
    rename_i hT
    split at h <;> try (cases h; done)
    rename_i he
    obtain rfl := Option.some.inj h
    subst he hT
    exact appSrc_val hu (Lst.opW_esat hp hA h1 my hy)
  · rename_i r hy
    split at h <;> try (cases h; done)
    rename_i T' e' m hv ys' hR
    split at h <;> try (cases h; done)
    rename_i T2 hu
    split at h <;> try (cases h; done)
    rename_i hT
    split at h <;> try (cases h; done)
    rename_i he
    obtain rfl := Option.some.inj h
    obtain ⟨hT, hm⟩ := hT
    subst he hT
    exact hp.appSrc_own hu ((Lst.opW_root hA my hy (List.mem_singleton_self _)).trans (Lst.root_gr h1 hR)) hm (Lst.opW_esat hp hA h1 my hy)
  · rename_i b hy
    split at h <;> try (cases h; done)
    rename_i hu
    split at h <;> try (cases h; done)
    rename_i he
    obtain rfl := Option.some.inj h
    subst he
    exact appSrc_str hu (Lst.opW_esat hp hA h1 my hy)
  · rename_i hy
    split at h <;> try (cases h; done)
    rename_i T2 hu
    obtain rfl := Option.some.inj h
    exact appSrc_nil hu (Lst.opW_esat hp hA h1 my hy)

def bytesOf' (P : Program) (T : TypeId) : Nat := ((P.info? T).map (·.bytes)).getD 0

def c_append (P : Program) (s : Lst E) (gs : Gs) (t t2 : TypeId) (x y : Operand) (kn : Option (TypeId × Kt)) : Option (OR E) := match s.op gs x with
  | some (.own r) => match s.root gs r with
    | some ⟨.sl T el, .ow m, _, xs⟩ => if m.free && appOk P t T el (bytesOf' P T) then
        match c_src P s gs t2 T el y with
        | some ys => some ⟨some fun e => appFits (xs e).length (ys e).length (bytesOf' P T), [(0, .own s.nx)], [(s.nx, some ⟨.sl T el, .ow m, 0, fun e => xs e ++ ys e⟩), (r, none)], 1⟩
        | none => none
        else none
    | _ => none
  | some (.cst (.slice none 0 0)) => match kn with
    | some (T, el) => if appOk P t T el (bytesOf' P T) then
        match c_src P s gs t2 T el y with
        | some ys => some ⟨some fun e => appFits 0 (ys e).length (bytesOf' P T), [(0, .own s.nx)], [(s.nx, some ⟨.sl T el, .ow .sh, 0, ys⟩)], 1⟩
        | none => none
        else none
    | none => none
  | _ => none

theorem snd_append {t t2 : TypeId} {x y : Operand} {kn : Option (TypeId × Kt)} {r : OR E} (ho : o.op = .call { callee := .builtin .append, args := #[x, y], argTypes := #[t, t2] }) (h : c_append P s gs t t2 x y kn = some r) : Snd P o s gs r := by
  unfold c_append at h
  have mx : x ∈ o.op.operands := by simp [ho, Op.operands, Call.operands]
  have my : y ∈ o.op.operands := by simp [ho, Op.operands, Call.operands]
  split at h <;> try (cases h; done)
  · rename_i r hx
    split at h <;> try (cases h; done)
    rename_i T el m hv xs hR
    split at h <;> try (cases h; done)
    rename_i hc
    rw [Bool.and_eq_true] at hc
    split at h <;> try (cases h; done)
    rename_i ys hys
    obtain rfl := Option.some.inj h
    intro cx e g a w V Fp Q h1 hok hA hd hp
    rw [OR.ok_holds] at hok
    rw [evs_one, rtU_cons, rtU_cons, rtU_nil]
    exact op_append_own hp ho (Lst.op_esat hp hA h1 mx hx) ((Lst.op_root hA mx hx (List.mem_singleton_self _)).trans (Lst.root_gr h1 hR)) hc.1 (c_src_spec hys hp hA h1 my) hc.2 hok (by have := hA.new 0 (by simp); simpa using this) hd
  · rename_i hx
    split at h <;> try (cases h; done)
    rename_i T el
    split at h <;> try (cases h; done)
    rename_i hc
    split at h <;> try (cases h; done)
    rename_i ys hys
    obtain rfl := Option.some.inj h
    intro cx e g a w V Fp Q h1 hok hA hd hp
    rw [OR.ok_holds] at hok
    rw [evs_one, rtU_cons, rtU_nil]
    exact op_append_nil hp ho (Lst.op_esat hp hA h1 mx hx) (c_src_spec hys hp hA h1 my) hc hok (by have := hA.new 0 (by simp); simpa using this) hd

/-! ### buildSlice -/
/-- The parts' data. -/
def c_parts (s : Lst E) (gs : Gs) (k : Kt) : List Operand → Option (E → List k.T)
  | [] => some fun _ => []
  | x :: xs => match s.op gs x, c_parts s gs k xs with
    | some (.val k' y), some ys => if h : k' = k then some fun e => (h ▸ y e) :: ys e else none
    | _, _ => none
theorem c_parts_spec {k : Kt} {cx : Cx} {g : G} {a : Act} {w : World} {V : Nat → Value} {Fp : Nat → List Nat} {e : E} {n : Nat} (hp : Pre cx g a w V Fp) (hA : Agree g s e (opTmps o) n) (h1 : s.on gs e = true) :
    ∀ (xs : List Operand) (ys : E → List k.T), c_parts s gs k xs = some ys → (∀ x ∈ xs, x ∈ o.op.operands) → EsL cx g.rt V Fp w k (ys e) (xs.map a.eval)
  | [], ys, h, _ => by
    obtain rfl := Option.some.inj h
    exact .nil
  | x :: xs, ys, h, hm => by
    unfold c_parts at h
    split at h <;> try (cases h; done)
    rename_i k' y ys' hx hxs
    split at h <;> try (cases h; done)
    rename_i hk
    obtain rfl := Option.some.inj h
    subst hk
    exact .cons (Lst.op_esat hp hA h1 (hm x (List.mem_cons_self ..)) hx) (c_parts_spec hp hA h1 xs ys' hxs fun x hx => hm x (List.mem_cons_of_mem _ hx))

def partsOk (parts : Array (Nat × Operand)) : Bool := go parts.toList 0
where go : List (Nat × Operand) → Nat → Bool
  | [], _ => true
  | (i, _) :: l, j => i == j && go l (j + 1)
theorem partsOk_go : ∀ (l : List (Nat × Operand)) (j : Nat), partsOk.go l j = true → l = (((l.map (·.2)).zipIdx j).map fun x => (x.2, x.1))
  | [], _, _ => rfl
  | (i, x) :: l, j, h => by
    simp only [partsOk.go, Bool.and_eq_true, beq_iff_eq] at h
    obtain ⟨rfl, h⟩ := h
    simp only [List.map_cons, List.zipIdx_cons]
    rw [← partsOk_go l _ h]
theorem partsOk_spec {parts : Array (Nat × Operand)} (h : partsOk parts = true) : parts = (((parts.toList.map (·.2)).zipIdx 0).map fun x => (x.2, x.1)).toArray := by
  apply Array.ext'
  exact partsOk_go _ _ h

def elemOf' (P : Program) (t : TypeId) : Option TypeId := match P.underlying t with | some (.slice e) => some e | _ => none
def c_buildSlice (P : Program) (s : Lst E) (gs : Gs) (t : TypeId) (n : Nat) (parts : Array (Nat × Operand)) (k : Kt) : Option (OR E) := match elemOf' P t with
  | some T => if sliceOk P t T k && ((P.info? T).bind (·.zero)).isSome && partsOk parts && (n == parts.size) && decide (parts.size * (k.size + 1) ≤ 16777216) then
      match c_parts s gs k (parts.toList.map (·.2)) with
      | some ys => some ⟨none, [(0, .own s.nx)], [(s.nx, some ⟨.sl T k, .ow .sh, 0, ys⟩)], 1⟩
      | none => none
    else none
  | none => none
theorem snd_buildSlice {t : TypeId} {n : Nat} {parts : Array (Nat × Operand)} {k : Kt} {r : OR E} (ho : o.op = .buildSlice t n parts) (h : c_buildSlice P s gs t n parts k = some r) : Snd P o s gs r := by
  unfold c_buildSlice at h
  split at h <;> try (cases h; done)
  rename_i T hT
  split at h <;> try (cases h; done)
  rename_i hc
  simp only [Bool.and_eq_true, beq_iff_eq, decide_eq_true_eq] at hc
  obtain ⟨⟨⟨⟨h1, h2⟩, h3⟩, h4⟩, h5⟩ := hc
  split at h <;> try (cases h; done)
  rename_i ys hys
  obtain rfl := Option.some.inj h
  intro cx e g a w V Fp Q hon hok hA hd hp
  rw [evs_one, rtU_cons, rtU_nil]
  refine op_buildSlice hp ho (partsOk_spec h3) (by rw [h4]; simp) h1 h2 (c_parts_spec (o := o) hp hA hon _ _ hys fun x hx => ?_) (by simpa using h5) (by have := hA.new 0 (by simp); simpa using this) hd
  simpa [ho, Op.operands] using hx
end
end Go.Lift
