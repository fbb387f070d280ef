/-
  THE LIFT (LiftD): a checked way from the model's code to plain functions: what a function is compiled to, it is.
-/
import Derived.Test.YtlagcpfboljhnaaLiftC
import Derived.Scope
import Derived.Deep.LoopGhost
import Derived.ChangeArms
import Derived.OpenShut
import Derived.ChangeShapes
import Derived.Laws.AppendOwn
import Derived.Shelf.Strings.Builder1
import Derived.Lib.OwnBridge
import Derived.Lib.LaidTab
namespace Go.Lift
set_option linter.unusedVariables false
set_option linter.unusedSimpArgs false

/-! ### Where ways meet: a state's shape, its data in a row -/
inductive EntS where
  | val (k : Kt)
  | own (j : Nat)
  | place (k : Kt)
  deriving DecidableEq
structure Shape where
  rts : List (Kt × Mk × (Nat × Nat))
  tms : List ((Nat × Nat) × EntS)
  deriving DecidableEq

def tkk : List ((Nat × Nat) × EntS) → List Kt
  | [] => []
  | (_, .val k) :: l => k :: tkk l
  | (_, .own _) :: l => tkk l
  | (_, .place k) :: l => k :: tkk l
def Shape.D (sh : Shape) : Type := HL (sh.rts.map (·.1)) × HL (tkk sh.tms)

section
variable {E' : Type}
def unR : (l : List (Kt × Mk × (Nat × Nat))) → Nat → (E' → HL (l.map (·.1))) → List (Nat × (Gs × Option (Root E')))
  | [], _, _ => []
  | (k, m, _) :: l, j, pr => (j, ([], some ⟨k, m, 0, fun e => (pr e).1⟩)) :: unR l (j + 1) fun e => (pr e).2
def unT : (l : List ((Nat × Nat) × EntS)) → (E' → HL (tkk l)) → List ((Nat × Nat) × Slot E')
  | [], _ => []
  | (q, .val k) :: l, pr => (q, ⟨[], .val k fun e => (pr e).1⟩) :: unT l fun e => (pr e).2
  | (q, .own j) :: l, pr => (q, ⟨[], .own j⟩) :: unT l pr
  | (q, .place k) :: l, pr => (q, ⟨[], .place k fun e => (pr e).1⟩) :: unT l fun e => (pr e).2
end
def unpack (sh : Shape) : Lst sh.D := ⟨unT sh.tms Prod.snd, unR sh.rts 0 Prod.fst, sh.rts.length⟩

section
variable {E : Type}
/-- How a root of the shape is come by: an owned root (its inner parts given up: true), or nil. -/
inductive Src' where
  | root (r : Nat) (relax : Bool)
  | nil (v : Value)

def packOpt (R : Root E) (r : Nat) : (k : Kt) → Mk → Option ((E → k.T) × Src')
  | .opt true k', m => if h : R.k = k' then if R.m.eqv m = true then some (fun e => some (h ▸ R.x e), .root r false) else none else none
  | _, _ => none
def packNil : (k : Kt) → Option ((E → k.T) × Src')
  | .opt true k' => if k'.size = 1 ∧ k'.isAgg = false then some (fun _ => none, .nil (.pointer none)) else none
  | _ => none
def packRoot (s : Lst E) (k : Kt) (m : Mk) (q : Nat × Nat) : Option ((E → k.T) × Src') := match s.at [] q with
  | some (.own r) => match s.root [] r with
    | some R => if h : R.k = k then
        if R.m.eqv m = true then some (fun e => h ▸ R.x e, .root r false)
        else match R.m, m with
          | .ow m1, .ow .sh => if m1.whole && !k.fixed then some (fun e => h ▸ R.x e, .root r true) else none
          | _, _ => none
      else packOpt R r k m
    | none => none
  | some (.cst (.pointer none)) => packNil k
  | some (.cst (.slice none 0 0)) => match k, m with
    | .sl _ _, .ow _ => some (fun _ => [], .nil (.slice none 0 0))
    | .win (.sl _ _), .ow _ => some (fun _ => ([], 0), .nil (.slice none 0 0))
    | _, _ => none
  | some (.cst .nilIface) => match k, m with
    | .ifc _ _, .ow _ => some (fun _ => none, .nil .nilIface)
    | _, _ => none
  | _ => none
def packR (s : Lst E) : (l : List (Kt × Mk × (Nat × Nat))) → Option ((E → HL (l.map (·.1))) × List Src')
  | [] => some (fun _ => (), [])
  | (k, m, q) :: l => match packRoot s k m q, packR s l with
    | some (f, r), some (fs, rs) => some (fun e => (f e, fs e), r :: rs)
    | _, _ => none
def isRoot (r : Nat) : Src' → Bool
  | .root r' _ => r' == r
  | .nil _ => false
def packT (s : Lst E) (mp : List Src') : (l : List ((Nat × Nat) × EntS)) → Option (E → HL (tkk l))
  | [] => some fun _ => ()
  | (q, .val k) :: l => match packT s mp l with
    | none => none
    | some fs => match s.at [] q with
      | some (.val k' x) => if h : k' = k then some fun e => (h ▸ x e, fs e) else none
      | some (.own r) => match s.root [] r with
        | some R => if h : R.k = k then if R.m.whole && !mp.any (isRoot r) then some fun e => (h ▸ R.x e, fs e) else none else none
        | none => none
      | some (.cst (.slice none 0 0)) => match k with
        | .sl _ _ => some fun e => ([], fs e)
        | .win (.sl _ _) => some fun e => (([], 0), fs e)
        | _ => none
      | some (.cst .nilIface) => match k with
        | .ifc _ _ => some fun e => (none, fs e)
        | _ => none
      | _ => none
  | (q, .own j) :: l => match packT s mp l with
    | none => none
    | some fs => match s.at [] q, mp[j]? with
      | some (.own r), some (.root r' _) => if r = r' then some fs else none
      | some (.cst (.slice none 0 0)), some (.nil (.slice none 0 0)) => some fs
      | some (.cst .nilIface), some (.nil .nilIface) => some fs
      | some (.cst (.pointer none)), some (.nil (.pointer none)) => some fs
      | _, _ => none
  | (q, .place k) :: l => match packT s mp l with
    | none => none
    | some fs => match s.at [] q with
      | some (.place k' x) => if h : k' = k then some fun e => (h ▸ x e, fs e) else none
      | _ => none
def srcNodup : List Src' → Bool
  | [] => true
  | .root r _ :: l => !l.any (isRoot r) && srcNodup l
  | .nil _ :: l => srcNodup l
def pack (s : Lst E) (sh : Shape) : Option (E → sh.D) := match packR s sh.rts with
  | none => none
  | some (f, mp) => if srcNodup mp then match packT s mp sh.tms with
    | some fs => some fun e => (f e, fs e)
    | none => none
    else none

/-- The footprint of what is packed. -/
def srcF (Fp : Nat → List Nat) : Option Src' → List Nat
  | some (.root r false) => Fp r
  | some (.root r true) => (Fp r).take 1
  | _ => []
def srcV (V : Nat → Value) : Option Src' → Value
  | some (.root r _) => V r
  | some (.nil v) => v
  | none => .slice none 0 0

theorem srcF_sub {Fp : Nat → List Nat} {x : Option Src'} {b : Nat} (h : b ∈ srcF Fp x) : ∃ r x', x = some (.root r x') ∧ b ∈ Fp r := by
  cases x with
  | none => cases h
  | some x =>
    cases x with
    | nil => cases h
    | root r rx =>
      cases rx with
      | false => exact ⟨r, false, rfl, h⟩
      | true => exact ⟨r, true, rfl, List.mem_of_mem_take h⟩

theorem packR_len {s : Lst E} : ∀ {l : List (Kt × Mk × (Nat × Nat))} {f : E → HL (l.map (·.1))} {mp : List Src'}, packR s l = some (f, mp) → mp.length = l.length
  | [], f, mp, h => by
    obtain ⟨_, rfl⟩ := Prod.mk.inj (Option.some.inj h); rfl
  | (k, m, q) :: l, f, mp, h => by
    simp only [packR] at h
    split at h <;> try (cases h; done)
    rename_i f0 r0 fs rs h1 h2
    obtain ⟨_, rfl⟩ := Prod.mk.inj (Option.some.inj h)
    simp [packR_len h2]

theorem srcNodup_spec : ∀ {mp : List Src'}, srcNodup mp = true → ∀ (i j r : Nat) (x y : Bool), i ≠ j → mp[i]? = some (.root r x) → mp[j]? = some (.root r y) → False
  | [], h, i, j, r, x, y, hne, hi, hj => by cases hi
  | .nil _ :: l, h, i, j, r, x, y, hne, hi, hj => by
    cases i with
    | zero => simp at hi
    | succ i =>
      cases j with
      | zero => simp at hj
      | succ j => exact srcNodup_spec (mp := l) h i j r x y (by omega) (by simpa using hi) (by simpa using hj)
  | .root r0 x0 :: l, h, i, j, r, x, y, hne, hi, hj => by
    simp only [srcNodup, Bool.and_eq_true, Bool.not_eq_true'] at h
    have key : ∀ (j : Nat) (y : Bool), l[j]? = some (Src'.root r0 y) → False := by
      intro j y hj
      have : l.any (isRoot r0) = true := List.any_eq_true.2 ⟨_, List.mem_of_getElem? hj, by simp [isRoot]⟩
      rw [h.1] at this; cases this
    cases i with
    | zero =>
      obtain ⟨rfl, rfl⟩ := Src'.root.inj (Option.some.inj hi)
      cases j with
      | zero => exact hne rfl
      | succ j => exact key j y (by simpa using hj)
    | succ i =>
      cases j with
      | zero =>
        obtain ⟨rfl, rfl⟩ := Src'.root.inj (Option.some.inj hj)
        exact key i x (by simpa using hi)
      | succ j => exact srcNodup_spec (mp := l) h.2 i j r x y (by omega) (by simpa using hi) (by simpa using hj)

theorem packRoot_rz {s : Lst E} {k : Kt} {m : Mk} {q : Nat × Nat} {f : E → k.T} {src : Src'} (h : packRoot s k m q = some (f, src)) {cx : Cx} {e : E} {a : Act} {w : World} {V : Nat → Value} {Fp : Nat → List Nat} (hp : Pre cx (s.gr e) a w V Fp) {S' : Nat → Prop}
    (hS : ∀ b, cx.Sh Fp b → S' b) (hR : ∀ r, src = .root r true → ∀ b ∈ (Fp r).drop 1, S' b) : ∃ cs, Shows k (srcV V (some src)) cs ∧ Rz w S' k m (srcF Fp (some src)) (f e) cs := by
  unfold packRoot at h
  split at h <;> try (cases h; done)
  · rename_i r hq
    split at h <;> try (cases h; done)
    rename_i R hR'
    have hrt := Lst.root_gr (e := e) (gs := []) rfl hR'
    obtain ⟨cs, z1, z2⟩ := hp.mem.roots r _ hrt
    obtain ⟨Rk, Rm, Rhv, Rx⟩ := R
    split at h
    rotate_left
    · unfold packOpt at h
      split at h <;> try (cases h; done)
      split at h <;> try (cases h; done)
      rename_i hk
      have hk : Rk = _ := hk
      subst hk
      split at h <;> try (cases h; done)
      rename_i hm
      obtain ⟨rfl, rfl⟩ := Prod.mk.inj (Option.some.inj h)
      exact ⟨cs, z1, .inr ⟨_, rfl, Rz_keep ⟨Nat.le_refl _, fun b hb _ => ⟨rfl, hS b hb⟩⟩ _ _ _ _ _ (fun _ _ => rfl) (Rz_eqv _ Rm _ _ _ _ hm z2)⟩⟩
    rename_i hk
    have hk : Rk = k := hk
    subst hk
    split at h
    · rename_i hm
      obtain ⟨rfl, rfl⟩ := Prod.mk.inj (Option.some.inj h)
      exact ⟨cs, z1, Rz_keep ⟨Nat.le_refl _, fun b hb _ => ⟨rfl, hS b hb⟩⟩ _ _ _ _ _ (fun _ _ => rfl) (Rz_eqv _ Rm m _ _ _ hm z2)⟩
    · split at h <;> try (cases h; done)
      rename_i hm1 _
      split at h <;> try (cases h; done)
      rename_i hw
      simp only [Bool.and_eq_true, Bool.not_eq_true'] at hw
      obtain ⟨hw, hagg⟩ := hw
      obtain ⟨rfl, rfl⟩ := Prod.mk.inj (Option.some.inj h)
      have hm1 : Rm = .ow _ := hm1
      subst hm1
      exact ⟨cs, z1, Rz_relax (fun b hb _ => hS b hb) _ _ _ _ _ hw hagg (hR r rfl) z2⟩
  · unfold packNil at h
    split at h <;> try (cases h; done)
    split at h <;> try (cases h; done)
    rename_i hk
    obtain ⟨rfl, rfl⟩ := Prod.mk.inj (Option.some.inj h)
    exact ⟨[.pointer none], (shows_na (k := .opt true _) hk.2).2 rfl, .inl ⟨rfl, rfl, hk.1.symm, fun u hu => by rw [List.mem_singleton.1 hu]; rfl, fun _ => rfl⟩⟩
  · split at h <;> try (cases h; done)
    all_goals obtain ⟨rfl, rfl⟩ := Prod.mk.inj (Option.some.inj h)
    · exact ⟨[.slice none 0 0], rfl, .inl ⟨rfl, rfl, rfl⟩⟩
    · exact ⟨[.slice none 0 0], rfl, .inr ⟨by simp, none, 0, 0, rfl, Nat.le_refl _, .inl ⟨rfl, rfl, rfl⟩⟩⟩
  · split at h <;> try (cases h; done)
    obtain ⟨rfl, rfl⟩ := Prod.mk.inj (Option.some.inj h)
    exact ⟨[.nilIface], rfl, .inr ⟨by simp, .inl ⟨rfl, rfl, rfl⟩⟩⟩
theorem packR_look {s : Lst E} {E' : Type} {e : E} {d : E'} {cx : Cx} {a : Act} {w : World} {V : Nat → Value} {Fp : Nat → List Nat} (hp : Pre cx (s.gr e) a w V Fp) {S' : Nat → Prop} (hS : ∀ b, cx.Sh Fp b → S' b) :
    ∀ (l : List (Kt × Mk × (Nat × Nat))) (f : E → HL (l.map (·.1))) (mp : List Src') (j0 : Nat) (pr : E' → HL (l.map (·.1))), packR s l = some (f, mp) → pr d = f e →
      (∀ (i r : Nat), mp[i]? = some (Src'.root r true) → ∀ b ∈ (Fp r).drop 1, S' b) → ∀ j q, look j (unR l j0 pr) = some q → ∃ i src R, j = j0 + i ∧ mp[i]? = some src ∧ q = ([], some R) ∧ ∃ cs, Shows R.k (srcV V (some src)) cs ∧ Rz w S' R.k R.m (srcF Fp (some src)) (R.x d) cs
  | [], f, mp, j0, pr, h, hpr, hR, j, q, hl => by cases hl
  | (k, m, qq) :: l, f, mp, j0, pr, h, hpr, hR, j, q, hl => by
    simp only [packR] at h
    split at h <;> try (cases h; done)
    rename_i f0 r0 fs rs h1 h2
    obtain ⟨rfl, rfl⟩ := Prod.mk.inj (Option.some.inj h)
    simp only [unR, look] at hl
    split at hl
    · rename_i hj
      obtain rfl := Option.some.inj hl
      obtain ⟨cs, z1, z2⟩ := packRoot_rz h1 hp hS (fun r hr => hR 0 r (by simp [hr]))
      refine ⟨0, r0, _, by omega, rfl, rfl, cs, z1, ?_⟩
      have : (pr d).1 = f0 e := by rw [hpr]
      show Rz w S' k m _ (pr d).1 cs
      rw [this]; exact z2
    · obtain ⟨i, src, R, e1, e2, e3, e4⟩ := packR_look hp hS l fs rs (j0 + 1) (fun e => (pr e).2) h2 (by show (pr d).2 = _; rw [hpr]) (fun i r hr => hR (i + 1) r (by simpa using hr)) j q hl
      exact ⟨i + 1, src, R, by omega, by simpa using e2, e3, e4⟩
theorem unR_some {E' : Type} : ∀ (l : List (Kt × Mk × (Nat × Nat))) (j0 : Nat) (pr : E' → HL (l.map (·.1))) (i : Nat), i < l.length → ∃ R, look (j0 + i) (unR l j0 pr) = some ([], some R)
  | [], j0, pr, i, h => by simp at h
  | (k, m, q) :: l, j0, pr, i, h => by
    simp only [unR, look]
    by_cases hi : j0 + i = j0
    · rw [if_pos hi]; exact ⟨_, rfl⟩
    · rw [if_neg hi]
      obtain ⟨R, hR⟩ := unR_some l (j0 + 1) (fun e => (pr e).2) (i - 1) (by simp at h; omega)
      have : j0 + 1 + (i - 1) = j0 + i := by omega
      rw [this] at hR
      exact ⟨R, hR⟩
theorem packR_live {s : Lst E} {e : E} : ∀ (l : List (Kt × Mk × (Nat × Nat))) (f : E → HL (l.map (·.1))) (mp : List Src'), packR s l = some (f, mp) → ∀ (i r : Nat) (x : Bool), mp[i]? = some (Src'.root r x) → ∃ R, (s.gr e).rt r = some (some R)
  | [], f, mp, h, i, r, x, hi => by
    obtain ⟨_, rfl⟩ := Prod.mk.inj (Option.some.inj h)
    cases hi
  | (k, m, qq) :: l, f, mp, h, i, r, x, hi => by
    simp only [packR] at h
    split at h <;> try (cases h; done)
    rename_i f0 r0 fs rs h1 h2
    obtain ⟨_, rfl⟩ := Prod.mk.inj (Option.some.inj h)
    cases i with
    | succ i => exact packR_live l fs rs h2 i r x (by simpa using hi)
    | zero =>
      have hi : r0 = .root r x := by simpa using hi
      subst hi
      unfold packRoot at h1
      split at h1 <;> try (cases h1; done)
      · split at h1 <;> try (cases h1; done)
        rename_i R hR
        have := Lst.root_gr (e := e) (gs := []) rfl hR
        split at h1
        rotate_left
        · unfold packOpt at h1
          split at h1 <;> try (cases h1; done)
          split at h1 <;> try (cases h1; done)
          split at h1 <;> try (cases h1; done)
          obtain ⟨_, h3⟩ := Prod.mk.inj (Option.some.inj h1)
          obtain ⟨rfl, _⟩ := Src'.root.inj h3
          exact ⟨_, this⟩
        split at h1
        · obtain ⟨_, h3⟩ := Prod.mk.inj (Option.some.inj h1)
          obtain ⟨rfl, _⟩ := Src'.root.inj h3
          exact ⟨_, this⟩
        · split at h1 <;> try (cases h1; done)
          split at h1 <;> try (cases h1; done)
          obtain ⟨_, h3⟩ := Prod.mk.inj (Option.some.inj h1)
          obtain ⟨rfl, _⟩ := Src'.root.inj h3
          exact ⟨_, this⟩
      · unfold packNil at h1
        split at h1 <;> try (cases h1; done)
        split at h1 <;> (cases h1; done)
      · split at h1 <;> (cases h1; done)
      · split at h1 <;> (cases h1; done)

theorem packT_look {s : Lst E} {E' : Type} {e : E} {d : E'} {cx : Cx} {a : Act} {w : World} {V V' : Nat → Value} {Fp Fp' : Nat → List Nat} {mp : List Src'} {rt' : Nat → Option GR} (hp : Pre cx (s.gr e) a w V Fp) (hS : ∀ b, cx.Sh Fp b → cx.Sh Fp' b)
    (hfz : ∀ r, mp.any (isRoot r) = false → ∀ b ∈ Fp r, cx.Sh Fp' b) (hV : ∀ j, V' j = srcV V mp[j]?) (hrt : ∀ (j : Nat) (src : Src'), mp[j]? = some src → ∃ R, rt' j = some (some R)) (hlive : ∀ (i r : Nat) (x : Bool), mp[i]? = some (Src'.root r x) → ∃ R, (s.gr e).rt r = some (some R)) :
    ∀ (l : List ((Nat × Nat) × EntS)) (f : E → HL (tkk l)) (pr : E' → HL (tkk l)), packT s mp l = some f → pr d = f e →
      ∀ q sl, look q (unT l pr) = some sl → sl.gs = [] ∧ ∃ en, (s.gr e).tm q = some en ∧ ∀ u, ESat cx (s.gr e).rt V Fp w en u → ESat cx rt' V' Fp' w (sl.ent.ev d) u
  | [], f, pr, h, hpr, q, sl, hl => by cases hl
  | (qq, .val k) :: l, f, pr, h, hpr, q, sl, hl => by
    simp only [packT] at h
    split at h <;> try (cases h; done)
    rename_i fs h2
    have ih : ∀ f0 : E → k.T, some f = some (fun e => (f0 e, fs e)) → _ := fun f0 hf => packT_look hp hS hfz hV hrt hlive l fs (fun e => (pr e).2) h2 (by show (pr d).2 = _; rw [hpr, Option.some.inj hf])
    have fin : ∀ (f0 : E → k.T) (en : Ent E), some f = some (fun e => (f0 e, fs e)) → s.at [] qq = some en → (∀ u, ESat cx (s.gr e).rt V Fp w (en.ev e) u → ESat cx rt' V' Fp' w (.val k (f0 e)) u) →
        sl.gs = [] ∧ ∃ en, (s.gr e).tm q = some en ∧ ∀ u, ESat cx (s.gr e).rt V Fp w en u → ESat cx rt' V' Fp' w (sl.ent.ev d) u := by
      intro f0 en hf hat hu
      simp only [unT, look] at hl
      split at hl
      · rename_i hq
        subst hq
        obtain rfl := Option.some.inj hl
        refine ⟨rfl, _, Lst.at_gr (e := e) hat rfl, fun u h => ?_⟩
        have := hu u h
        show ESat cx rt' V' Fp' w (.val k (pr d).1) u
        rw [hpr, Option.some.inj hf]
        exact this
      · exact ih f0 hf q sl hl
    split at h <;> try (cases h; done)
    · rename_i k' x hat
      split at h <;> try (cases h; done)
      rename_i hk
      subst hk
      refine fin _ _ h.symm hat fun u ⟨cs, h3, h4⟩ => ⟨cs, h3, ?_⟩
      exact Rz_keep ⟨Nat.le_refl _, fun b hb _ => ⟨rfl, hS b hb⟩⟩ _ _ _ _ _ (fun _ _ => rfl) h4
    · rename_i r hat
      split at h <;> try (cases h; done)
      rename_i R hR
      split at h <;> try (cases h; done)
      rename_i hk
      split at h <;> try (cases h; done)
      rename_i hc
      simp only [Bool.and_eq_true, Bool.not_eq_true'] at hc
      obtain ⟨Rk, Rm, Rhv, Rx⟩ := R
      have hk : Rk = k := hk
      subst hk
      refine fin _ _ h.symm hat fun u hu => ?_
      obtain ⟨R1, g1, g2⟩ := hu
      have hrr := Lst.root_gr (e := e) (gs := []) rfl hR
      rw [hrr] at g1
      obtain rfl := Option.some.inj g1
      have := g2 (by simp)
      subst this
      obtain ⟨cs, z1, z2⟩ := hp.mem.roots r _ hrr
      exact ⟨cs, z1, Rz_share (fun b hb _ => hS b hb) _ _ _ _ _ hc.1 (hfz r hc.2) z2⟩
    · rename_i hat
      split at h <;> try (cases h; done)
      · rename_i T e1
        refine fin (fun _ => []) _ h.symm hat fun u hu => ?_
        obtain rfl : u = .slice none 0 0 := hu
        exact ⟨[.slice none 0 0], rfl, rfl, .inr ⟨by simp, none, 0, rfl, capOk0, .inl ⟨rfl, fun _ => rfl⟩⟩⟩
      · rename_i T e1
        refine fin (fun _ => ([], 0)) _ h.symm hat fun u hu => ?_
        obtain rfl : u = .slice none 0 0 := hu
        exact ⟨[.slice none 0 0], rfl, .inr ⟨by simp, none, 0, 0, rfl, Nat.le_refl _, rfl, .inr ⟨by simp, none, 0, rfl, capOk0, .inl ⟨rfl, fun _ => rfl⟩⟩⟩⟩
    · rename_i hat
      split at h <;> try (cases h; done)
      rename_i T e1
      refine fin (fun _ => none) _ h.symm hat fun u hu => ?_
      obtain rfl : u = .nilIface := hu
      exact ⟨[.nilIface], rfl, .inr ⟨by simp, .inl ⟨rfl, rfl, rfl⟩⟩⟩
  | (qq, .own j) :: l, f, pr, h, hpr, q, sl, hl => by
    simp only [packT] at h
    split at h <;> try (cases h; done)
    rename_i fs h2
    have ih : fs = f → _ := fun hf => packT_look hp hS hfz hV hrt hlive l fs pr h2 (by rw [hpr, hf])
    have fin : ∀ (en : Ent E), fs = f → s.at [] qq = some en → (∀ u, ESat cx (s.gr e).rt V Fp w (en.ev e) u → ESat cx rt' V' Fp' w (.own j) u) →
        sl.gs = [] ∧ ∃ en, (s.gr e).tm q = some en ∧ ∀ u, ESat cx (s.gr e).rt V Fp w en u → ESat cx rt' V' Fp' w (sl.ent.ev d) u := by
      intro en hf hat hu
      simp only [unT, look] at hl
      split at hl
      · rename_i hq
        subst hq
        obtain rfl := Option.some.inj hl
        exact ⟨rfl, _, Lst.at_gr (e := e) hat rfl, hu⟩
      · exact ih hf q sl hl
    split at h <;> try (cases h; done)
    · rename_i r r' rx hat hm
      split at h <;> try (cases h; done)
      rename_i hr
      subst hr
      refine fin _ (Option.some.inj h) hat fun u hu => ?_
      obtain ⟨R1, g1, g2⟩ := hu
      obtain ⟨R2, g3⟩ := hlive _ _ _ hm
      obtain ⟨R3, g4⟩ := hrt _ _ hm
      rw [g3] at g1
      obtain rfl := Option.some.inj g1
      exact ⟨_, g4, fun _ => by rw [hV, hm]; exact g2 (by simp)⟩
    · rename_i hat hm
      refine fin _ (Option.some.inj h) hat fun u hu => ?_
      obtain rfl : u = .slice none 0 0 := hu
      obtain ⟨R3, g4⟩ := hrt _ _ hm
      exact ⟨_, g4, fun _ => by rw [hV, hm]; rfl⟩
    · rename_i hat hm
      refine fin _ (Option.some.inj h) hat fun u hu => ?_
      obtain rfl : u = .nilIface := hu
      obtain ⟨R3, g4⟩ := hrt _ _ hm
      exact ⟨_, g4, fun _ => by rw [hV, hm]; rfl⟩
    · rename_i hat hm
      refine fin _ (Option.some.inj h) hat fun u hu => ?_
      obtain rfl : u = .pointer none := hu
      obtain ⟨R3, g4⟩ := hrt _ _ hm
      exact ⟨_, g4, fun _ => by rw [hV, hm]; rfl⟩
  | (qq, .place k) :: l, f, pr, h, hpr, q, sl, hl => by
    simp only [packT] at h
    split at h <;> try (cases h; done)
    rename_i fs h2
    split at h <;> try (cases h; done)
    rename_i k' x hat
    split at h <;> try (cases h; done)
    rename_i hk
    subst hk
    simp only [unT, look] at hl
    split at hl
    · rename_i hq
      subst hq
      obtain rfl := Option.some.inj hl
      refine ⟨rfl, _, Lst.at_gr (e := e) hat rfl, fun u hu => ?_⟩
      obtain ⟨b, o, cc, h3, h4, h5, h6, h7⟩ := hu
      refine ⟨b, o, cc, h3, hS b h4, h5, ?_, h7⟩
      have : (pr d).1 = x e := by rw [hpr, ← Option.some.inj h]
      show Rz w (cx.Sh Fp') k' .sh [] (pr d).1 cc
      rw [this]
      exact Rz_keep ⟨Nat.le_refl _, fun b hb _ => ⟨rfl, hS b hb⟩⟩ _ _ _ _ _ (fun _ _ => rfl) h6
    · exact packT_look hp hS hfz hV hrt hlive l fs (fun e => (pr e).2) h2 (by show (pr d).2 = _; rw [hpr, ← Option.some.inj h]) q sl hl

theorem gr_rt {E : Type} (s : Lst E) (e : E) (j : Nat) : (s.gr e).rt j = match look j s.rt with
    | some q => if s.on q.1 e = true then some (q.2.map (Root.ev e)) else none
    | none => none := rfl
theorem gr_tm {E : Type} (s : Lst E) (e : E) (q : Nat × Nat) : (s.gr e).tm q = match look q s.tm with
    | some sl => if s.on sl.gs e = true then some (sl.ent.ev e) else if q.2 = 0 then some (.cst undef) else none
    | none => none := rfl
/-- **A state may be seen in its shape.** -/
theorem pack_ok {s : Lst E} {sh : Shape} {f : E → sh.D} (h : pack s sh = some f) {cx : Cx} {e : E} {a : Act} {w : World} (hs : GSat cx (s.gr e) a w) : GSat cx ((unpack sh).gr (f e)) a w := by
  unfold pack at h
  split at h <;> try (cases h; done)
  rename_i fR mp h1
  split at h <;> try (cases h; done)
  rename_i hnd
  split at h <;> try (cases h; done)
  rename_i fT h2
  obtain rfl := Option.some.inj h
  obtain ⟨V, Fp, hp⟩ := hs.pre
  have hlen := packR_len h1
  have hlive := packR_live (e := e) _ _ _ h1
  have hndS := srcNodup_spec hnd
  have hsub : ∀ (j b : Nat), b ∈ srcF Fp mp[j]? → ∃ (r : Nat) (x : Bool), mp[j]? = some (Src'.root r x) ∧ b ∈ Fp r := fun j b hb => srcF_sub hb
  have hS : ∀ b, cx.Sh Fp b → cx.Sh (fun j => srcF Fp mp[j]?) b := fun b hb => ⟨hb.1, fun j hj => by
    obtain ⟨r, x, _, h4⟩ := hsub j b hj
    exact hb.2 r h4⟩
  have hown : ∀ r b, b ∈ Fp r → cx.S0 b ∨ cx.M b ∨ cx.w0.heap.size ≤ b := fun r b hb => .inr (hp.mem.own r b hb)
  have hfz : ∀ r, mp.any (isRoot r) = false → ∀ b ∈ Fp r, cx.Sh (fun j => srcF Fp mp[j]?) b := fun r hr b hb => ⟨hown r b hb, fun j hj => by
    obtain ⟨r', x, h3, h4⟩ := hsub j b hj
    by_cases hrr : r' = r
    · subst hrr
      have : mp.any (isRoot r') = true := List.any_eq_true.2 ⟨_, List.mem_of_getElem? h3, by simp [isRoot]⟩
      rw [hr] at this; cases this
    · exact hp.mem.disj _ _ hrr b h4 hb⟩
  have hrx : ∀ (i r : Nat), mp[i]? = some (Src'.root r true) → ∀ b ∈ (Fp r).drop 1, cx.Sh (fun j => srcF Fp mp[j]?) b := fun i r hi b hb => ⟨hown r b (List.mem_of_mem_drop hb), fun j hj => by
    by_cases hij : i = j
    · subst hij
      simp only [hi, srcF] at hj
      have hn := hp.mem.nodup r
      rw [← List.take_append_drop 1 (Fp r), List.nodup_append] at hn
      exact hn.2.2 b hj b hb rfl
    · obtain ⟨r', x, h3, h4⟩ := hsub j b hj
      by_cases hrr : r' = r
      · subst hrr; exact hndS _ _ _ _ _ hij hi h3
      · exact hp.mem.disj _ _ hrr b h4 (List.mem_of_mem_drop hb)⟩
  have hlk := packR_look (E' := sh.D) (d := (fR e, fT e)) hp hS sh.rts fR mp 0 Prod.fst h1 rfl hrx
  have hgr := fun j => gr_rt (unpack sh) ((fR e, fT e) : sh.D) j
  have hrt : ∀ (j : Nat) (src : Src'), mp[j]? = some src → ∃ R, ((unpack sh).gr (fR e, fT e)).rt j = some (some R) := fun j src hj => by
    have hj' := (List.getElem?_eq_some_iff.1 hj).1
    obtain ⟨R, hR⟩ := unR_some (E' := sh.D) sh.rts 0 Prod.fst j (by rw [← hlen]; exact hj')
    rw [Nat.zero_add] at hR
    have hR' : look j (unpack sh).rt = some ([], some R) := hR
    exact ⟨R.ev ((fR e, fT e) : sh.D), by rw [hgr, hR']; rfl⟩
  refine ⟨hp.defers, hp.size, fun j => srcV V mp[j]?, fun j => srcF Fp mp[j]?, ⟨hp.mem.os, hp.mem.tape, hp.mem.output, hp.mem.size, hp.mem.frame, fun j R hj => ?_, fun j hj => ?_, fun j => ?_, fun j j' hjj b hb hb' => ?_, fun j b hb => ?_⟩, fun t i ent he => ?_⟩
  · rw [hgr] at hj
    split at hj <;> try (cases hj; done)
    rename_i q hq
    obtain ⟨i, src, R0, rfl, e2, rfl, cs, e3, e4⟩ := hlk j q hq
    have : R = R0.ev (fR e, fT e) := by
      have := Option.some.inj hj
      exact (Option.some.inj this).symm
    subst this
    refine ⟨cs, ?_, ?_⟩
    · show Shows _ (srcV V mp[0 + i]?) cs
      rw [Nat.zero_add, e2]; exact e3
    · show Rz w _ _ _ (srcF Fp mp[0 + i]?) _ cs
      rw [Nat.zero_add, e2]; exact e4
  · cases hm : mp[j]? with
    | none => rfl
    | some src =>
      obtain ⟨R, hR⟩ := hrt j src hm
      exact absurd hR (hj R)
  · show (srcF Fp mp[j]?).Nodup
    cases hm : mp[j]? with
    | none => exact List.nodup_nil
    | some src =>
      cases src with
      | nil => exact List.nodup_nil
      | root r x =>
        cases x with
        | false => exact hp.mem.nodup r
        | true => exact (hp.mem.nodup r).sublist (List.take_sublist 1 _)
  · obtain ⟨r, x, h3, h4⟩ := hsub j b hb
    obtain ⟨r', x', h5, h6⟩ := hsub j' b hb'
    by_cases hrr : r = r'
    · subst hrr; exact hndS _ _ _ _ _ hjj h3 h5
    · exact hp.mem.disj _ _ hrr b h4 h6
  · obtain ⟨r, x, h3, h4⟩ := hsub j b hb
    exact hp.mem.own r b h4
  · have hgt := fun q => gr_tm (unpack sh) ((fR e, fT e) : sh.D) q
    rw [hgt] at he
    split at he <;> try (cases he; done)
    rename_i sl hsl
    obtain ⟨g1, en, g2, g3⟩ := packT_look (E' := sh.D) (d := (fR e, fT e)) (V' := fun j => srcV V mp[j]?) hp hS hfz (fun _ => rfl) hrt hlive sh.tms fT Prod.snd h2 rfl _ sl hsl
    have : (unpack sh).on sl.gs (fR e, fT e) = true := by rw [g1]; rfl
    rw [if_pos this] at he
    obtain rfl := Option.some.inj he
    obtain ⟨v, u, e1, e2, e3⟩ := hp.ents t i en g2
    exact ⟨v, u, e1, e2, g3 u e3⟩
end
end Go.Lift

namespace Go.Lift
set_option linter.unusedVariables false
set_option linter.unusedSimpArgs false

/-! ### Whole bodies -/
abbrev Tgt := List (Option Nat × Shape)
def Hd (R : Type) : Tgt → Type
  | [] => Unit
  | (_, sh) :: Γ => (sh.D → Option R) × Hd R Γ
def exitOf : Option Nat → Exit
  | none => .ret
  | some i => .exit i

inductive Hint where
  | leaf
  | seq (a b : Hint)
  | cond (j : Option Shape) (a b : Hint)
  | block (j : Shape) (nrm : Bool) (a : Hint)
  | loop (j : Shape) (a : Hint)
  | fail
  | scope (a : Hint)
  | pre (j : Shape) (a : Hint)

structure CR (R : Type) (Γ : Tgt) (E : Type) : Type 1 where
  nrm : Bool
  E' : Type
  s' : Lst E'
  den : Nat → Hd R Γ → (E' → Option R) → E → Option R

def loopN {D R : Type} (body : (D → Option R) → D → Option R) : Nat → D → Option R
  | 0, _ => none
  | k + 1, d => body (loopN body k) d

/-- What follows, once. -/
def shr {D R : Type} (K : D → Option R) (f : (D → Option R) → Option R) : Option R := f K

def c_exit {E R : Type} (s : Lst E) (id : Option Nat) : (Γ : Tgt) → Option (Hd R Γ → E → Option R)
  | [] => none
  | (i, sh) :: Γ => if i = id then match pack s sh with
      | some f => some fun hd e => hd.1 (f e)
      | none => none
    else match c_exit s id Γ with
      | some g => some fun hd e => g hd.2 e
      | none => none

/-- What follows, where it is reached. -/
def c_into {E : Type} (nrm : Bool) (s : Lst E) (j : Shape) {R : Type} : Option ((j.D → Option R) → E → Option R) := match nrm with
  | false => some fun _ _ => none
  | true => match pack s j with
    | some f => some fun K e => K (f e)
    | none => none

/-- A region behind changes of shape. -/
def c_reg (P : Program) (tab : Tab P) (nt : Nat × Nat) (R : Type) (Γ : Tgt) (ops : Array Oper) (draw : Bool) : Hint → {E : Type} → Lst E → Option (CR R Γ E)
  | .leaf, E, s => match c_region P tab nt ops draw s with
    | some rr => some ⟨true, rr.E', rr.s', fun k _ K e => rr.den R k K e⟩
    | none => none
  | .pre j h, E, s => match pack s j, c_reg P tab nt R Γ ops draw h (unpack j) with
    | some f, some cr => some ⟨cr.nrm, cr.E', cr.s', fun k hd K e => cr.den k hd K (f e)⟩
    | _, _ => none
  | _, _, _ => none

section
variable (P : Program) (tab : Tab P) (nt : Nat × Nat) (R : Type)
/-- Where nothing is said: the answer is none. -/
def c_fail {R E : Type} {Γ : Tgt} (s : Lst E) : CR R Γ E := ⟨false, E, s, fun _ _ _ _ => none⟩
def c_code : Code → (Γ : Tgt) → Hint → {E : Type} → Lst E → Option (CR R Γ E)
  | _, Γ, .fail, E, s => some (c_fail s)
  | .skip, Γ, .leaf, E, s => some ⟨true, E, s, fun _ _ K e => K e⟩
  | .label _, Γ, .leaf, E, s => some ⟨true, E, s, fun _ _ K e => K e⟩
  | .scope a, Γ, .scope ha, E, s => c_code a Γ ha s
  | .region _ ops draw, Γ, h, E, s => c_reg P tab nt R Γ ops draw h s
  | .exit id, Γ, .leaf, E, s => match c_exit (R := R) s (some id) Γ with
    | some g => some ⟨false, E, s, fun _ hd _ e => g hd e⟩
    | none => none
  | .ret, Γ, .leaf, E, s => match c_exit (R := R) s none Γ with
    | some g => some ⟨false, E, s, fun _ hd _ e => g hd e⟩
    | none => none
  | .seq a b, Γ, .seq ha hb, E, s => match c_code a Γ ha s with
    | none => none
    | some ca => match ca.nrm with
      | false => some ⟨false, ca.E', ca.s', fun k hd _ e => ca.den k hd (fun _ => none) e⟩
      | true => match c_code b Γ hb ca.s' with
        | none => none
        | some cb => some ⟨cb.nrm, cb.E', cb.s', fun k hd K e => ca.den k hd (fun e' => cb.den k hd K e') e⟩
  | .cond c x y, Γ, .cond j hx hy, E, s => match s.op [] c with
    | some (.val .bool t) => match c_code x Γ hx s, c_code y Γ hy s with
      | some cx, some cy => match cx.nrm, cy.nrm, j with
        | false, _, none => some ⟨cy.nrm, cy.E', cy.s', fun k hd K e => if t e then cx.den k hd (fun _ => none) e else cy.den k hd K e⟩
        | true, false, none => some ⟨true, cx.E', cx.s', fun k hd K e => if t e then cx.den k hd K e else cy.den k hd (fun _ => none) e⟩
        | _, _, some j => match c_into (R := R) cx.nrm cx.s' j, c_into (R := R) cy.nrm cy.s' j with
          | some fx, some fy => some ⟨true, j.D, unpack j, fun k hd K e => shr K fun K => if t e then cx.den k hd (fx K) e else cy.den k hd (fy K) e⟩
          | _, _ => none
        | _, _, _ => none
      | _, _ => none
    | _ => none
  | .block id a, Γ, .block j nrm ha, E, s => match c_code a ((some id, j) :: Γ) ha s with
    | none => none
    | some ca => match c_into (R := R) ca.nrm ca.s' j with
      | none => none
      | some f => some ⟨nrm, j.D, unpack j, fun k hd K e => shr K fun K => ca.den k (K, hd) (f K) e⟩
  | .loop a, Γ, .loop j ha, E, s => match pack s j, c_code a Γ ha (unpack j) with
    | some f0, some ca => match c_into (R := R) ca.nrm ca.s' j with
      | none => none
      | some f => some ⟨false, j.D, unpack j, fun k hd _ e => loopN (fun self d => ca.den k hd (f self) d) k (f0 e)⟩
    | _, _ => none
  | _, _, _, _, _ => none
end

/-! ### A body is what it is compiled to -/
inductive HdAt {R : Type} : (Γ : Tgt) → Hd R Γ → Option Nat → (sh : Shape) → (sh.D → Option R) → Prop
  | here {id : Option Nat} {sh : Shape} {Γ : Tgt} {hd : Hd R ((id, sh) :: Γ)} : HdAt ((id, sh) :: Γ) hd id sh hd.1
  | there {id id' : Option Nat} {sh sh' : Shape} {Γ : Tgt} {hd : Hd R ((id', sh') :: Γ)} {h : sh.D → Option R} (hne : id' ≠ id) (ht : HdAt Γ hd.2 id sh h) : HdAt ((id', sh') :: Γ) hd id sh h

def HdOk {R : Type} (cx : Cx) (out : R) (Γ : Tgt) (hd : Hd R Γ) (Q : Exit → Act → World → Prop) : Prop :=
  ∀ id sh h, HdAt Γ hd id sh h → ∀ d a w, h d = some out → GSat cx ((unpack sh).gr d) a w → Q (exitOf id) a w

theorem c_exit_at {E R : Type} {s : Lst E} {id : Option Nat} : ∀ {Γ : Tgt} {g : Hd R Γ → E → Option R}, c_exit s id Γ = some g → ∀ hd, ∃ sh f, pack s sh = some f ∧ ∃ h, HdAt Γ hd id sh h ∧ ∀ e, g hd e = h (f e)
  | [], g, h, hd => by cases h
  | (i, sh) :: Γ, g, h, hd => by
    simp only [c_exit] at h
    split at h
    · rename_i hi
      subst hi
      split at h <;> try (cases h; done)
      rename_i f hf
      obtain rfl := Option.some.inj h
      exact ⟨sh, f, hf, _, .here, fun e => rfl⟩
    · rename_i hi
      split at h <;> try (cases h; done)
      rename_i g' hg
      obtain rfl := Option.some.inj h
      obtain ⟨sh', f, h1, h', h2, h3⟩ := c_exit_at hg hd.2
      exact ⟨sh', f, h1, h', .there hi h2, h3⟩

theorem c_exit_ok {E R : Type} {s : Lst E} {id : Option Nat} {Γ : Tgt} {g : Hd R Γ → E → Option R} (h : c_exit s id Γ = some g) {hd : Hd R Γ} {e : E} {out : R} (ho : g hd e = some out) {cx : Cx} {a : Act} {w : World} {Q : Exit → Act → World → Prop} (hs : GSat cx (s.gr e) a w)
    (hk : HdOk cx out Γ hd Q) : Q (exitOf id) a w := by
  obtain ⟨sh, f, h1, h', h2, h3⟩ := c_exit_at h hd
  rw [h3] at ho
  exact hk _ _ _ h2 _ _ _ ho (pack_ok h1 hs)

theorem c_into_ok {E R : Type} {nrm : Bool} {s : Lst E} {j : Shape} {f : (j.D → Option R) → E → Option R} (h : c_into nrm s j = some f) {K : j.D → Option R} {e : E} {out : R} (ho : f K e = some out) : ∃ d, K d = some out ∧ ∀ cx a w, GSat cx (s.gr e) a w → GSat cx ((unpack j).gr d) a w := by
  unfold c_into at h
  split at h
  · obtain rfl := Option.some.inj h
    cases ho
  · split at h <;> try (cases h; done)
    rename_i f' hf
    obtain rfl := Option.some.inj h
    exact ⟨f' e, ho, fun cx a w hs => pack_ok hf hs⟩

theorem cond_eval {E : Type} {s : Lst E} {c : Operand} {t : E → Bool} (h : s.op [] c = some (.val .bool t)) {cx : Cx} {e : E} {a : Act} {w : World} (hs : GSat cx (s.gr e) a w) : a.eval c = .bool (t e) := by
  obtain ⟨V, Fp, hp⟩ := hs.pre
  unfold Lst.op at h
  split at h
  · rename_i t'
    obtain ⟨v, u, h1, h2, h3⟩ := hp.ents _ _ _ (Lst.at_gr (e := e) h rfl)
    obtain rfl := Option.some.inj h2
    have : a.eval (.tmp t') = v := by simp [Act.eval, h1]
    rw [this]
    exact h3.bool
  all_goals first | (cases h; done) | skip
  · obtain h := Option.some.inj h
    injection h with h1 h2
    subst h2
    rfl

theorem c_reg_ok {P : Program} {Gl : World → Prop} {tab : Tab P} (hm : P.follows .mixedOrders = true) (htab : ∀ f sp, (f, sp) ∈ tab.fs → FnOk P Gl f sp) {nt : Nat × Nat} {R : Type} {Γ : Tgt} {id : Nat} {ops : Array Oper} {draw : Bool} :
    ∀ (hi : Hint) {E : Type} (s : Lst E) (cr : CR R Γ E), c_reg P tab nt R Γ ops draw hi s = some cr → ∀ (k : Nat) (hd : Hd R Γ) (K : cr.E' → Option R) (e : E) (out : R), cr.den k hd K e = some out →
      ∀ (cx : Cx) (a : Act) (w : World) (Q : Exit → Act → World → Prop), cx.Gl = Gl → cx.nt = nt → GSat cx (s.gr e) a w → (∀ e' a' w', K e' = some out → GSat cx (cr.s'.gr e') a' w' → Q .normal a' w') → (Code.region id ops draw).wp P Q a w := by
  intro hi
  induction hi with
  | leaf =>
    intro E s cr h k hd K e out ho cx a w Q hGl hnt hs hQ
    simp only [c_reg] at h
    split at h <;> try (cases h; done)
    rename_i rr hrr
    obtain rfl := Option.some.inj h
    obtain ⟨e', h1, h2⟩ := c_region_ok (id := id) hm htab hrr R k K e out ho
    exact h2 cx a w Q hGl hnt hs fun a' w' hs' => hQ e' a' w' h1 hs'
  | pre j hh ih =>
    intro E s cr h k hd K e out ho cx a w Q hGl hnt hs hQ
    simp only [c_reg] at h
    split at h <;> try (cases h; done)
    rename_i f cr' hf hcr
    obtain rfl := Option.some.inj h
    exact ih (unpack j) cr' hcr k hd K (f e) out ho cx a w Q hGl hnt (pack_ok hf hs) hQ
  | _ =>
    intro E s cr h
    simp only [c_reg] at h
    cases h

theorem c_code_ok {P : Program} {Gl : World → Prop} {tab : Tab P} (hm : P.follows .mixedOrders = true) (htab : ∀ f sp, (f, sp) ∈ tab.fs → FnOk P Gl f sp) {nt : Nat × Nat} {R : Type} :
    ∀ (c : Code) (Γ : Tgt) (hi : Hint) {E : Type} (s : Lst E) (cr : CR R Γ E), c_code P tab nt R c Γ hi s = some cr → ∀ (k : Nat) (hd : Hd R Γ) (K : cr.E' → Option R) (e : E) (out : R), cr.den k hd K e = some out →
      ∀ (cx : Cx) (a : Act) (w : World) (Q : Exit → Act → World → Prop), cx.Gl = Gl → cx.nt = nt → GSat cx (s.gr e) a w → (∀ e' a' w', K e' = some out → GSat cx (cr.s'.gr e') a' w' → Q .normal a' w') → HdOk cx out Γ hd Q → c.wp P Q a w := by
  intro c
  induction c with
  | skip =>
    intro Γ hi E s cr h k hd K e out ho cx a w Q hGl hnt hs hQ hH
    cases hi <;> simp only [c_code] at h <;> try (first | (cases h; done) | (obtain rfl := Option.some.inj h; cases ho; done))
    obtain rfl := Option.some.inj h
    exact wp_skip (hQ e a w ho hs)
  | label l =>
    intro Γ hi E s cr h k hd K e out ho cx a w Q hGl hnt hs hQ hH
    cases hi <;> simp only [c_code] at h <;> try (first | (cases h; done) | (obtain rfl := Option.some.inj h; cases ho; done))
    obtain rfl := Option.some.inj h
    exact wp_label (hQ e a w ho hs)
  | region id ops draw =>
    intro Γ hi E s cr h k hd K e out ho cx a w Q hGl hnt hs hQ hH
    have h' : hi = .fail ∨ c_reg P tab nt R Γ ops draw hi s = some cr := by
      cases hi <;> simp only [c_code] at h <;> first | exact .inl rfl | exact .inr h
    rcases h' with rfl | h'
    · simp only [c_code] at h
      obtain rfl := Option.some.inj h
      cases ho
    · exact c_reg_ok hm htab hi s cr h' k hd K e out ho cx a w Q hGl hnt hs hQ
  | exit id =>
    intro Γ hi E s cr h k hd K e out ho cx a w Q hGl hnt hs hQ hH
    cases hi <;> simp only [c_code] at h <;> try (first | (cases h; done) | (obtain rfl := Option.some.inj h; cases ho; done))
    split at h <;> try (cases h; done)
    rename_i g hg
    obtain rfl := Option.some.inj h
    exact wp_exit (c_exit_ok hg ho hs hH)
  | ret =>
    intro Γ hi E s cr h k hd K e out ho cx a w Q hGl hnt hs hQ hH
    cases hi <;> simp only [c_code] at h <;> try (first | (cases h; done) | (obtain rfl := Option.some.inj h; cases ho; done))
    split at h <;> try (cases h; done)
    rename_i g hg
    obtain rfl := Option.some.inj h
    exact wp_ret (c_exit_ok hg ho hs hH)
  | seq x y ihx ihy =>
    intro Γ hi E s cr h k hd K e out ho cx a w Q hGl hnt hs hQ hH
    cases hi <;> simp only [c_code] at h <;> try (first | (cases h; done) | (obtain rfl := Option.some.inj h; cases ho; done))
    split at h <;> try (cases h; done)
    rename_i ca hca
    have hH' : ∀ N : Act → World → Prop, HdOk cx out Γ hd (Exit.then N Q) := fun N id sh h' hat d a w hd' hs' => by
      have := hH id sh h' hat d a w hd' hs'
      cases id <;> exact this
    split at h
    · rename_i hn
      obtain rfl := Option.some.inj h
      refine wp_seq (ihx Γ _ s ca hca k hd (fun _ => none) e out ho cx a w _ hGl hnt hs (fun e' a' w' hn => by cases hn) (hH' _))
    · split at h <;> try (cases h; done)
      rename_i cb hcb
      obtain rfl := Option.some.inj h
      exact wp_seq (ihx Γ _ s ca hca k hd _ e out ho cx a w _ hGl hnt hs (fun e' a' w' hK hs' => ihy Γ _ ca.s' cb hcb k hd K e' out hK cx a' w' Q hGl hnt hs' hQ hH) (hH' _))
  | cond c x y ihx ihy =>
    intro Γ hi E s cr h k hd K e out ho cx a w Q hGl hnt hs hQ hH
    cases hi <;> simp only [c_code] at h <;> try (first | (cases h; done) | (obtain rfl := Option.some.inj h; cases ho; done))
    split at h <;> try (cases h; done)
    rename_i t ht
    have hev := cond_eval ht hs
    split at h <;> try (cases h; done)
    rename_i cx1 cy1 hx1 hy1
    split at h
    · obtain rfl := Option.some.inj h
      refine wp_cond_split hev (fun htt => ?_) (fun htt => ?_)
      · simp only [htt, if_true] at ho
        exact ihx Γ _ s cx1 hx1 k hd _ e out ho cx a w Q hGl hnt hs (fun e' a' w' hn => by cases hn) hH
      · simp only [htt, Bool.false_eq_true, if_false] at ho
        exact ihy Γ _ s cy1 hy1 k hd _ e out ho cx a w Q hGl hnt hs hQ hH
    · obtain rfl := Option.some.inj h
      refine wp_cond_split hev (fun htt => ?_) (fun htt => ?_)
      · simp only [htt, if_true] at ho
        exact ihx Γ _ s cx1 hx1 k hd _ e out ho cx a w Q hGl hnt hs hQ hH
      · simp only [htt, Bool.false_eq_true, if_false] at ho
        exact ihy Γ _ s cy1 hy1 k hd _ e out ho cx a w Q hGl hnt hs (fun e' a' w' hn => by cases hn) hH
    · split at h <;> try (cases h; done)
      rename_i fx fy hfx hfy
      obtain rfl := Option.some.inj h
      refine wp_cond_split hev (fun htt => ?_) (fun htt => ?_)
      · simp only [shr, htt, if_true] at ho
        refine ihx Γ _ s cx1 hx1 k hd _ e out ho cx a w Q hGl hnt hs (fun e' a' w' hn hs' => ?_) hH
        obtain ⟨d, h1, h2⟩ := c_into_ok hfx hn
        exact hQ d a' w' h1 (h2 _ _ _ hs')
      · simp only [shr, htt, Bool.false_eq_true, if_false] at ho
        refine ihy Γ _ s cy1 hy1 k hd _ e out ho cx a w Q hGl hnt hs (fun e' a' w' hn hs' => ?_) hH
        obtain ⟨d, h1, h2⟩ := c_into_ok hfy hn
        exact hQ d a' w' h1 (h2 _ _ _ hs')
    · cases h
  | block id x ih =>
    intro Γ hi E s cr h k hd K e out ho cx a w Q hGl hnt hs hQ hH
    cases hi <;> simp only [c_code] at h <;> try (first | (cases h; done) | (obtain rfl := Option.some.inj h; cases ho; done))
    split at h <;> try (cases h; done)
    rename_i ca hca
    split at h <;> try (cases h; done)
    rename_i f hf
    obtain rfl := Option.some.inj h
    refine wp_block (ih _ _ s ca hca k (K, hd) _ e out ho cx a w _ hGl hnt hs (fun e' a' w' hn hs' => ?_) fun i sh h' hat d a w hd' hs' => ?_)
    · obtain ⟨d, h1, h2⟩ := c_into_ok hf hn
      exact hQ d a' w' h1 (h2 _ _ _ hs')
    · cases hat with
      | here =>
        show (if id = id then _ else _)
        rw [if_pos rfl]
        exact hQ d a w hd' hs'
      | there hne hat =>
        have := hH i sh h' hat d a w hd' hs'
        cases i with
        | none => exact this
        | some i =>
          show (if i = id then _ else _)
          rw [if_neg fun e => hne (by rw [e])]
          exact this
  | loop x ih =>
    intro Γ hi E s cr h k hd K e out ho cx a w Q hGl hnt hs hQ hH
    cases hi <;> simp only [c_code] at h <;> try (first | (cases h; done) | (obtain rfl := Option.some.inj h; cases ho; done))
    rename_i j ha
    split at h <;> try (cases h; done)
    rename_i f0 ca hf0 hca
    split at h <;> try (cases h; done)
    rename_i f hf
    obtain rfl := Option.some.inj h
    refine wp_loop_ghost (fun n a w => ∃ d, loopN (fun self d => ca.den k hd (f self) d) n d = some out ∧ GSat cx ((unpack j).gr d) a w) k ⟨f0 e, ho, pack_ok hf0 hs⟩ fun n a w ⟨d, h1, h2⟩ => ?_
    cases n with
    | zero => cases h1
    | succ n =>
      refine ih Γ _ (unpack j) ca hca k hd _ d out h1 cx a w _ hGl hnt h2 (fun e' a' w' hn hs' => ?_) fun id sh h' hat d a w hd' hs' => ?_
      · obtain ⟨d', h3, h4⟩ := c_into_ok hf hn
        exact ⟨n, Nat.lt_succ_self n, d', h3, h4 _ _ _ hs'⟩
      · have := hH id sh h' hat d a w hd' hs'
        cases id <;> exact this
  | scope x ih =>
    intro Γ hi E s cr h k hd K e out ho cx a w Q hGl hnt hs hQ hH
    cases hi <;> simp only [c_code] at h <;> try (first | (cases h; done) | (obtain rfl := Option.some.inj h; cases ho; done))
    refine wp_scope_straight (ih Γ _ s cr h k hd K e out ho cx a w _ hGl hnt hs (fun e' a' w' hn hs' => hQ e' a' w' hn hs') fun id sh h' hat d a w hd' hs' => ?_)
    have := hH id sh h' hat d a w hd' hs'
    cases id <;> exact this
  | _ =>
    intro Γ hi E s cr h k hd K e out ho
    cases hi <;> simp only [c_code] at h <;> first | (cases h; done) | (obtain rfl := Option.some.inj h; cases ho; done)
end Go.Lift

namespace Go.Lift
set_option linter.unusedVariables false
set_option linter.unusedSimpArgs false

/-! ### A function: its parameters -/
section
variable {E : Type}
def iniT : (ps : List (Kt × PM)) → Nat → (E → HL (ps.map (·.1))) → List ((Nat × Nat) × Slot E)
  | [], _, _ => []
  | (k, .val) :: ps, i, pr => ((i, 0), ⟨[], .val k fun e => (pr e).1⟩) :: iniT ps (i + 1) fun e => (pr e).2
  | (_, .mut _) :: ps, i, pr => ((i, 0), ⟨[], .own i⟩) :: iniT ps (i + 1) fun e => (pr e).2
  | (_, .tak _) :: ps, i, pr => ((i, 0), ⟨[], .own i⟩) :: iniT ps (i + 1) fun e => (pr e).2
def iniR : (ps : List (Kt × PM)) → Nat → (E → HL (ps.map (·.1))) → List (Nat × (Gs × Option (Root E)))
  | [], _, _ => []
  | (_, .val) :: ps, i, pr => iniR ps (i + 1) fun e => (pr e).2
  | (k, .mut m) :: ps, i, pr => (i, ([], some ⟨k, m, 0, fun e => (pr e).1⟩)) :: iniR ps (i + 1) fun e => (pr e).2
  | (k, .tak m) :: ps, i, pr => (i, ([], some ⟨k, m, 0, fun e => (pr e).1⟩)) :: iniR ps (i + 1) fun e => (pr e).2
end
def iniS (ps : List (Kt × PM)) : Lst (HL (ps.map (·.1))) := ⟨iniT ps 0 id, iniR ps 0 id, ps.length⟩

theorem args_ok {E : Type} {w : World} {S : Nat → Prop} {e : E} : ∀ (ps : List (Kt × PM)) (i : Nat) (pr : E → HL (ps.map (·.1))) (vs : List Value) (F : List Nat), ArgsR w S ps (pr e) vs F → F.Nodup →
    ∃ Fp : Nat → List Nat, vs.length = ps.length ∧ (∀ r b, b ∈ Fp r → b ∈ F ∧ i ≤ r) ∧ (∀ r, (Fp r).Nodup) ∧ (∀ r r', r ≠ r' → ∀ b ∈ Fp r, b ∉ Fp r') ∧
      (∀ r q, look r (iniR ps i pr) = some q → ∃ R v, q = ([], some R) ∧ i ≤ r ∧ vs[r - i]? = some v ∧ ∃ cs, Shows R.k v cs ∧ Rz w S R.k R.m (Fp r) (R.x e) cs) ∧ (∀ r, look r (iniR ps i pr) = none → Fp r = []) ∧
      (∀ q sl, look q (iniT ps i pr) = some sl → sl.gs = [] ∧ q.2 = 0 ∧ i ≤ q.1 ∧ ∃ v, vs[q.1 - i]? = some v ∧ ((∃ k x, sl.ent = .val k x ∧ ∃ cs, Shows k v cs ∧ Rz w S k .sh [] (x e) cs) ∨ (sl.ent = .own q.1 ∧ ∃ q', look q.1 (iniR ps i pr) = some q')))
  | [], i, pr, vs, F, h, hn => by
    obtain ⟨rfl, rfl⟩ := h
    exact ⟨fun _ => [], rfl, by simp, by simp, by simp, by simp [iniR, look], by simp, by simp [iniT, look]⟩
  | (k, .val) :: ps, i, pr, vs, F, h, hn => by
    obtain ⟨v, vs', rfl, h1, h2⟩ := h
    obtain ⟨Fp, a1, a2, a3, a4, a5, a6, a7⟩ := args_ok ps (i + 1) (fun e => (pr e).2) vs' F h2 hn
    refine ⟨Fp, by simp [a1], fun r b hb => ⟨(a2 r b hb).1, by have := (a2 r b hb).2; omega⟩, a3, a4, fun r q hq => ?_, a6, fun q sl hq => ?_⟩
    · obtain ⟨R, u, b1, b2, b3, b4⟩ := a5 r q hq
      refine ⟨R, u, b1, by omega, ?_, b4⟩
      have : r - i = (r - (i + 1)) + 1 := by omega
      rw [this]; simpa using b3
    · simp only [iniT, look] at hq
      split at hq
      · rename_i hqi
        subst hqi
        obtain rfl := Option.some.inj hq
        exact ⟨rfl, rfl, Nat.le_refl _, v, by simp, .inl ⟨k, _, rfl, h1⟩⟩
      · obtain ⟨b1, b2, b3, u, b4, b5⟩ := a7 q sl hq
        refine ⟨b1, b2, by omega, u, ?_, b5⟩
        have : q.1 - i = (q.1 - (i + 1)) + 1 := by omega
        rw [this]; simpa using b4
  | (k, .mut m) :: ps, i, pr, vs, F, h, hn => by
    obtain ⟨v, vs', F1, F2, rfl, rfl, h1, h2⟩ := h
    rw [List.nodup_append] at hn
    obtain ⟨n1, n2, n3⟩ := hn
    obtain ⟨Fp, a1, a2, a3, a4, a5, a6, a7⟩ := args_ok ps (i + 1) (fun e => (pr e).2) vs' F2 h2 n2
    have hne : ∀ r, r ≠ i → upd Fp i F1 r = Fp r := fun r hr => upd_ne _ _ hr
    refine ⟨upd Fp i F1, by simp [a1], fun r b hb => ?_, fun r => ?_, fun r r' hrr b hb hb' => ?_, fun r q hq => ?_, fun r hr => ?_, fun q sl hq => ?_⟩
    · by_cases hr : r = i
      · subst hr; rw [upd_same] at hb; exact ⟨List.mem_append_left _ hb, Nat.le_refl _⟩
      · rw [hne r hr] at hb
        exact ⟨List.mem_append_right _ (a2 r b hb).1, by have := (a2 r b hb).2; omega⟩
    · by_cases hr : r = i
      · subst hr; rw [upd_same]; exact n1
      · rw [hne r hr]; exact a3 r
    · by_cases hr : r = i
      · subst hr
        rw [upd_same] at hb
        rw [hne r' fun e => hrr e.symm] at hb'
        exact n3 b hb b (a2 r' b hb').1 rfl
      · rw [hne r hr] at hb
        by_cases hr' : r' = i
        · subst hr'
          rw [upd_same] at hb'
          exact n3 b hb' b (a2 r b hb).1 rfl
        · rw [hne r' hr'] at hb'
          exact a4 r r' hrr b hb hb'
    · simp only [iniR, look] at hq
      split at hq
      · rename_i hri
        subst hri
        obtain rfl := Option.some.inj hq
        exact ⟨_, v, rfl, Nat.le_refl _, by simp, by rw [upd_same]; exact h1⟩
      · rename_i hri
        obtain ⟨R, u, b1, b2, b3, b4⟩ := a5 r q hq
        refine ⟨R, u, b1, by omega, ?_, by rw [hne r hri]; exact b4⟩
        have : r - i = (r - (i + 1)) + 1 := by omega
        rw [this]; simpa using b3
    · simp only [iniR, look] at hr
      split at hr
      · cases hr
      · rename_i hri
        rw [hne r hri]; exact a6 r hr
    · simp only [iniT, look] at hq
      split at hq
      · rename_i hqi
        subst hqi
        obtain rfl := Option.some.inj hq
        exact ⟨rfl, rfl, Nat.le_refl _, v, by simp, .inr ⟨rfl, by simp [iniR, look]⟩⟩
      · obtain ⟨b1, b2, b3, u, b4, b5⟩ := a7 q sl hq
        refine ⟨b1, b2, by omega, u, ?_, ?_⟩
        · have : q.1 - i = (q.1 - (i + 1)) + 1 := by omega
          rw [this]; simpa using b4
        · rcases b5 with b5 | ⟨b5, q', b6⟩
          · exact .inl b5
          · refine .inr ⟨b5, q', ?_⟩
            simp only [iniR, look]
            rw [if_neg (by omega)]
            exact b6
  | (k, .tak m) :: ps, i, pr, vs, F, h, hn => by
    obtain ⟨v, vs', F1, F2, rfl, rfl, h1, h2⟩ := h
    rw [List.nodup_append] at hn
    obtain ⟨n1, n2, n3⟩ := hn
    obtain ⟨Fp, a1, a2, a3, a4, a5, a6, a7⟩ := args_ok ps (i + 1) (fun e => (pr e).2) vs' F2 h2 n2
    have hne : ∀ r, r ≠ i → upd Fp i F1 r = Fp r := fun r hr => upd_ne _ _ hr
    refine ⟨upd Fp i F1, by simp [a1], fun r b hb => ?_, fun r => ?_, fun r r' hrr b hb hb' => ?_, fun r q hq => ?_, fun r hr => ?_, fun q sl hq => ?_⟩
    · by_cases hr : r = i
      · subst hr; rw [upd_same] at hb; exact ⟨List.mem_append_left _ hb, Nat.le_refl _⟩
      · rw [hne r hr] at hb
        exact ⟨List.mem_append_right _ (a2 r b hb).1, by have := (a2 r b hb).2; omega⟩
    · by_cases hr : r = i
      · subst hr; rw [upd_same]; exact n1
      · rw [hne r hr]; exact a3 r
    · by_cases hr : r = i
      · subst hr
        rw [upd_same] at hb
        rw [hne r' fun e => hrr e.symm] at hb'
        exact n3 b hb b (a2 r' b hb').1 rfl
      · rw [hne r hr] at hb
        by_cases hr' : r' = i
        · subst hr'
          rw [upd_same] at hb'
          exact n3 b hb' b (a2 r b hb).1 rfl
        · rw [hne r' hr'] at hb'
          exact a4 r r' hrr b hb hb'
    · simp only [iniR, look] at hq
      split at hq
      · rename_i hri
        subst hri
        obtain rfl := Option.some.inj hq
        exact ⟨_, v, rfl, Nat.le_refl _, by simp, by rw [upd_same]; exact h1⟩
      · rename_i hri
        obtain ⟨R, u, b1, b2, b3, b4⟩ := a5 r q hq
        refine ⟨R, u, b1, by omega, ?_, by rw [hne r hri]; exact b4⟩
        have : r - i = (r - (i + 1)) + 1 := by omega
        rw [this]; simpa using b3
    · simp only [iniR, look] at hr
      split at hr
      · cases hr
      · rename_i hri
        rw [hne r hri]; exact a6 r hr
    · simp only [iniT, look] at hq
      split at hq
      · rename_i hqi
        subst hqi
        obtain rfl := Option.some.inj hq
        exact ⟨rfl, rfl, Nat.le_refl _, v, by simp, .inr ⟨rfl, by simp [iniR, look]⟩⟩
      · obtain ⟨b1, b2, b3, u, b4, b5⟩ := a7 q sl hq
        refine ⟨b1, b2, by omega, u, ?_, ?_⟩
        · have : q.1 - i = (q.1 - (i + 1)) + 1 := by omega
          rw [this]; simpa using b4
        · rcases b5 with b5 | ⟨b5, q', b6⟩
          · exact .inl b5
          · refine .inr ⟨b5, q', ?_⟩
            simp only [iniR, look]
            rw [if_neg (by omega)]
            exact b6

theorem ini_ok {Gl : World → Prop} {ps : List (Kt × PM)} {d : HL (ps.map (·.1))} {w : World} {S : Nat → Prop} {vs : List Value} {F : List Nat} (hgl : ∀ w', Fr w w' (· ∈ F) → Gl w') (h : ArgsR w S ps d vs F) (hn : F.Nodup) (hS : ∀ b ∈ F, ¬ S b) {nt np : Nat} (hnt : ps.length ≤ nt) :
    GSat ⟨w, S, (· ∈ F), (np, nt), vs, Gl, hgl⟩ ((iniS ps).gr d) ⟨vs.toArray ++ Array.replicate (nt - vs.toArray.size) undef, []⟩ w := by
  obtain ⟨Fp, a1, a2, a3, a4, a5, a6, a7⟩ := args_ok (e := d) ps 0 id vs F h hn
  have hSh : ∀ b, S b → Cx.Sh ⟨w, S, (· ∈ F), (np, nt), vs, Gl, hgl⟩ Fp b := fun b hb => ⟨.inl hb, fun r hr => hS b (a2 r b hr).1 hb⟩
  have keep : ∀ {k : Kt} {m : Mk} {F' : List Nat} {x : k.T} {cs : List Value}, Rz w S k m F' x cs → Rz w (Cx.Sh ⟨w, S, (· ∈ F), (np, nt), vs, Gl, hgl⟩ Fp) k m F' x cs := fun hz => Rz_keep ⟨Nat.le_refl _, fun b hb _ => ⟨rfl, hSh b hb⟩⟩ _ _ _ _ _ (fun _ _ => rfl) hz
  have htm : ∀ i v, vs[i]? = some v → (vs.toArray ++ Array.replicate (nt - vs.toArray.size) undef)[i]? = some v := fun i v hv => by
    have hlt := (List.getElem?_eq_some_iff.1 hv).1
    rw [Array.getElem?_append, if_pos (by simpa using hlt)]
    simpa using hv
  refine ⟨rfl, ⟨?_, fun i v hi hv => htm i v hv⟩, fun r => vs.getD r undef, Fp, ⟨rfl, rfl, rfl, Nat.le_refl _, fun b _ _ => rfl, fun r R hr => ?_, fun r hr => ?_, a3, a4, fun r b hb => .inl (a2 r b hb).1⟩, fun t i ent he => ?_⟩
  · simp; omega
  · rw [gr_rt] at hr
    split at hr <;> try (cases hr; done)
    rename_i q hq
    obtain ⟨R', v, rfl, _, b3, cs, b4, b5⟩ := a5 r q hq
    have : R = R'.ev d := by
      have := Option.some.inj hr
      exact (Option.some.inj this).symm
    subst this
    refine ⟨cs, ?_, keep b5⟩
    have : vs.getD r undef = v := by simpa [List.getD] using congrArg (·.getD undef) b3
    show Shows _ (vs.getD r undef) cs
    rw [this]; exact b4
  · cases hq : look r (iniS ps).rt with
    | none => exact a6 r hq
    | some q =>
      obtain ⟨R', v, rfl, _⟩ := a5 r q hq
      refine absurd ?_ (hr (R'.ev d))
      rw [gr_rt, hq]; rfl
  · rw [gr_tm] at he
    split at he <;> try (cases he; done)
    rename_i sl hsl
    obtain ⟨b1, b2, _, v, b3, b4⟩ := a7 _ sl hsl
    have hon : (iniS ps).on sl.gs d = true := by rw [b1]; rfl
    rw [if_pos hon] at he
    obtain rfl := Option.some.inj he
    have b2 : i = 0 := b2
    subst b2
    refine ⟨v, v, htm t v b3, rfl, ?_⟩
    rcases b4 with ⟨k, x, b4, cs, b5, b6⟩ | ⟨b4, q', b5⟩
    · rw [b4]
      exact ⟨cs, b5, keep b6⟩
    · rw [b4]
      obtain ⟨R', v', rfl, _, b6, _⟩ := a5 _ q' b5
      refine ⟨some (R'.ev d), ?_, fun _ => ?_⟩
      · have b5' : look (t, 0).1 (iniS ps).rt = some ([], some R') := b5
        rw [gr_rt, b5']; rfl
      · show v = vs.getD t undef
        simpa [List.getD] using (congrArg (·.getD undef) b3).symm

end Go.Lift

namespace Go.Lift
set_option linter.unusedVariables false
set_option linter.unusedSimpArgs false

/-! ### A function: its results -/
def rtsR : (rs : List (Kt × RM)) → List ResultVar → List (Kt × Mk × (Nat × Nat)) → List (Kt × Mk × (Nat × Nat))
  | [], _, tl => tl
  | _ :: _, [], tl => tl
  | (k, .val) :: rs, .tmp t :: vs, tl => rtsR rs vs tl
  | (k, .own m) :: rs, .tmp t :: vs, tl => (k, m, (t, 0)) :: rtsR rs vs tl
  | (k, .val) :: rs, .cell t T :: vs, tl => (.ptr T k, .ow .sh, (t, 0)) :: rtsR rs vs tl
  | (k, .own m) :: rs, .cell t T :: vs, tl => (.ptr T k, .ow m, (t, 0)) :: rtsR rs vs tl
def tmsR : (rs : List (Kt × RM)) → List ResultVar → Nat → (Nat → List ((Nat × Nat) × EntS)) → List ((Nat × Nat) × EntS)
  | [], _, j, tl => tl j
  | _ :: _, [], j, tl => tl j
  | (k, .val) :: rs, .tmp t :: vs, j, tl => ((t, 0), .val k) :: tmsR rs vs j tl
  | (k, .own m) :: rs, .tmp t :: vs, j, tl => ((t, 0), .own j) :: tmsR rs vs (j + 1) tl
  | (k, .val) :: rs, .cell t T :: vs, j, tl => ((t, 0), .own j) :: tmsR rs vs (j + 1) tl
  | (k, .own m) :: rs, .cell t T :: vs, j, tl => ((t, 0), .own j) :: tmsR rs vs (j + 1) tl
def outR {tl : List (Kt × Mk × (Nat × Nat))} {tlt : Nat → List ((Nat × Nat) × EntS)} : (rs : List (Kt × RM)) → (vs : List ResultVar) → (j : Nat) → HL ((rtsR rs vs tl).map (·.1)) → HL (tkk (tmsR rs vs j tlt)) → HL (rs.map (·.1)) × HL (tl.map (·.1))
  | [], _, j, x, y => ((), x)
  | q :: rs, [], j, x, y => (HL.dflt ((q :: rs).map (·.1)), x)
  | (k, .val) :: rs, .tmp t :: vs, j, x, y => let q := outR (tl := tl) (tlt := tlt) rs vs j x y.2; ((y.1, q.1), q.2)
  | (k, .own m) :: rs, .tmp t :: vs, j, x, y => let q := outR (tl := tl) (tlt := tlt) rs vs (j + 1) x.2 y; ((x.1, q.1), q.2)
  | (k, .val) :: rs, .cell t T :: vs, j, x, y => let q := outR (tl := tl) (tlt := tlt) rs vs (j + 1) x.2 y; ((x.1, q.1), q.2)
  | (k, .own m) :: rs, .cell t T :: vs, j, x, y => let q := outR (tl := tl) (tlt := tlt) rs vs (j + 1) x.2 y; ((x.1, q.1), q.2)
def rtsM : (ps : List (Kt × PM)) → Nat → List (Kt × Mk × (Nat × Nat))
  | [], _ => []
  | (k, .val) :: ps, i => rtsM ps (i + 1)
  | (k, .tak m) :: ps, i => rtsM ps (i + 1)
  | (k, .mut m) :: ps, i => (k, m, (i, 0)) :: rtsM ps (i + 1)
def tmsM : (ps : List (Kt × PM)) → Nat → Nat → List ((Nat × Nat) × EntS)
  | [], _, _ => []
  | (k, .val) :: ps, i, j => tmsM ps (i + 1) j
  | (k, .tak m) :: ps, i, j => tmsM ps (i + 1) j
  | (k, .mut m) :: ps, i, j => ((i, 0), .own j) :: tmsM ps (i + 1) (j + 1)
def outM : (ps : List (Kt × PM)) → (i : Nat) → HL ((rtsM ps i).map (·.1)) → HL ((mutsOf ps).map (·.1))
  | [], _, x => ()
  | (k, .val) :: ps, i, x => outM ps (i + 1) x
  | (k, .tak m) :: ps, i, x => outM ps (i + 1) x
  | (k, .mut m) :: ps, i, x => (x.1, outM ps (i + 1) x.2)

def retShape (sig : Sig) (vs : List ResultVar) : Shape := ⟨rtsR sig.rs vs (rtsM sig.ps 0), tmsR sig.rs vs 0 (tmsM sig.ps 0)⟩
abbrev Sig.Out (sig : Sig) : Type := HL (sig.rs.map (·.1)) × HL ((mutsOf sig.ps).map (·.1))
def retOut (sig : Sig) (vs : List ResultVar) (d : (retShape sig vs).D) : sig.Out :=
  let q := outR (tl := rtsM sig.ps 0) (tlt := tmsM sig.ps 0) sig.rs vs 0 d.1 d.2
  (q.1, outM sig.ps 0 q.2)

def resChk (P : Program) : (rs : List (Kt × RM)) → List ResultVar → Bool
  | [], [] => true
  | _ :: rs, .tmp _ :: vs => resChk P rs vs
  | (k, _) :: rs, .cell _ T :: vs => tyOk P T k && decide (k.isAgg = true ∨ k.size = 1) && resChk P rs vs
  | _, _ => false
def nodupK : List ((Nat × Nat) × EntS) → Bool
  | [] => true
  | (q, _) :: l => l.all (fun q' => !(q'.1 == q)) && nodupK l

section
variable (cx : Cx) (a : Act) (w : World) (S : Nat → Prop) (V : Nat → Value) (Fp : Nat → List Nat)
def RtOk : (l : List (Kt × Mk × (Nat × Nat))) → Nat → HL (l.map (·.1)) → Prop
  | [], _, _ => True
  | (k, m, _) :: l, j, x => (∃ cs, Shows k (V j) cs ∧ Rz w S k m (Fp j) x.1 cs) ∧ RtOk l (j + 1) x.2
def TmOk : (l : List ((Nat × Nat) × EntS)) → HL (tkk l) → Prop
  | [], _ => True
  | (q, .val k) :: l, x => (q.2 = 0 → ∃ u, a.tmps[q.1]? = some u ∧ ∃ cs, Shows k u cs ∧ Rz w S k .sh [] x.1 cs) ∧ TmOk l x.2
  | (q, .own j) :: l, x => (q.2 = 0 → a.tmps[q.1]? = some (V j)) ∧ TmOk l x
  | (q, .place k) :: l, x => TmOk l x.2
end

section
variable {cx : Cx} {a : Act} {w : World} {S : Nat → Prop} {V : Nat → Value} {Fp : Nat → List Nat}
theorem unR_rt {E' : Type} {d : E'} : ∀ (l : List (Kt × Mk × (Nat × Nat))) (j : Nat) (pr : E' → HL (l.map (·.1))), (∀ i R, look i (unR l j pr) = some ([], some R) → ∃ cs, Shows R.k (V i) cs ∧ Rz w S R.k R.m (Fp i) (R.x d) cs) → RtOk w S V Fp l j (pr d)
  | [], j, pr, h => trivial
  | (k, m, q) :: l, j, pr, h => by
    refine ⟨h j _ (by simp only [unR, look]; rw [if_pos trivial]), unR_rt l (j + 1) (fun e => (pr e).2) fun i R hi => h i R ?_⟩
    simp only [unR, look]
    have : ∀ (l : List (Kt × Mk × (Nat × Nat))) (j : Nat) (pr : E' → HL (l.map (·.1))) q, look i (unR l j pr) = some q → j ≤ i := by
      intro l
      induction l with
      | nil => intro j pr q h; cases h
      | cons x l ih =>
        intro j pr q h
        obtain ⟨k, m, y⟩ := x
        simp only [unR, look] at h
        split at h
        · omega
        · have := ih (j + 1) _ q h; omega
    have := this l (j + 1) _ _ hi
    rw [if_neg (by omega)]
    exact hi
theorem unT_key {E' : Type} : ∀ (l : List ((Nat × Nat) × EntS)) (pr : E' → HL (tkk l)) q sl, look q (unT l pr) = some sl → ∃ x, (q, x) ∈ l
  | [], pr, q, sl, h => by cases h
  | (q', .val k) :: l, pr, q, sl, h => by
    simp only [unT, look] at h
    split at h
    · rename_i e; subst e; exact ⟨_, List.mem_cons_self ..⟩
    · obtain ⟨x, hx⟩ := unT_key l _ q sl h; exact ⟨x, List.mem_cons_of_mem _ hx⟩
  | (q', .own j) :: l, pr, q, sl, h => by
    simp only [unT, look] at h
    split at h
    · rename_i e; subst e; exact ⟨_, List.mem_cons_self ..⟩
    · obtain ⟨x, hx⟩ := unT_key l _ q sl h; exact ⟨x, List.mem_cons_of_mem _ hx⟩
  | (q', .place k) :: l, pr, q, sl, h => by
    simp only [unT, look] at h
    split at h
    · rename_i e; subst e; exact ⟨_, List.mem_cons_self ..⟩
    · obtain ⟨x, hx⟩ := unT_key l _ q sl h; exact ⟨x, List.mem_cons_of_mem _ hx⟩
theorem nodupK_ne {q : Nat × Nat} {x : EntS} {l : List ((Nat × Nat) × EntS)} (h : nodupK ((q, x) :: l) = true) : nodupK l = true ∧ ∀ q' x', (q', x') ∈ l → q' ≠ q := by
  simp only [nodupK, Bool.and_eq_true, List.all_eq_true] at h
  exact ⟨h.2, fun q' x' hq => by have := h.1 _ hq; simpa using this⟩
theorem unT_tm {E' : Type} {d : E'} : ∀ (l : List ((Nat × Nat) × EntS)) (pr : E' → HL (tkk l)), nodupK l = true →
    (∀ q sl, look q (unT l pr) = some sl → q.2 = 0 → ∃ u, a.tmps[q.1]? = some u ∧ match sl.ent with | .val k x => ∃ cs, Shows k u cs ∧ Rz w S k .sh [] (x d) cs | .own j => u = V j | _ => True) → TmOk a w S V l (pr d)
  | [], pr, hn, h => trivial
  | (q, .val k) :: l, pr, hn, h => by
    obtain ⟨n1, n2⟩ := nodupK_ne hn
    refine ⟨fun hq => ?_, unT_tm l (fun e => (pr e).2) n1 fun q' sl hq' => h q' sl ?_⟩
    · obtain ⟨u, h1, h2⟩ := h q _ (by simp only [unT, look]; rw [if_pos trivial]) hq
      exact ⟨u, h1, h2⟩
    · obtain ⟨x, hx⟩ := unT_key _ _ _ _ hq'
      simp only [unT, look]
      rw [if_neg (n2 _ _ hx)]
      exact hq'
  | (q, .own j) :: l, pr, hn, h => by
    obtain ⟨n1, n2⟩ := nodupK_ne hn
    refine ⟨fun hq => ?_, unT_tm l pr n1 fun q' sl hq' => h q' sl ?_⟩
    · obtain ⟨u, h1, h2⟩ := h q _ (by simp only [unT, look]; rw [if_pos trivial]) hq
      rw [h1]; exact congrArg some h2
    · obtain ⟨x, hx⟩ := unT_key _ _ _ _ hq'
      simp only [unT, look]
      rw [if_neg (n2 _ _ hx)]
      exact hq'
  | (q, .place k) :: l, pr, hn, h => by
    obtain ⟨n1, n2⟩ := nodupK_ne hn
    refine unT_tm l (fun e => (pr e).2) n1 fun q' sl hq' => h q' sl ?_
    obtain ⟨x, hx⟩ := unT_key _ _ _ _ hq'
    simp only [unT, look]
    rw [if_neg (n2 _ _ hx)]
    exact hq'

theorem unpack_all {sh : Shape} {d : sh.D} (hn : nodupK sh.tms = true) (hp : Pre cx ((unpack sh).gr d) a w V Fp) : RtOk w (cx.Sh Fp) V Fp sh.rts 0 d.1 ∧ TmOk a w (cx.Sh Fp) V sh.tms d.2 := by
  constructor
  · refine unR_rt (E' := sh.D) (d := d) sh.rts 0 Prod.fst fun i R hi => ?_
    have hi' : look i (unpack sh).rt = some ([], some R) := hi
    exact hp.mem.roots i (R.ev d) (by rw [gr_rt, hi']; rfl)
  · refine unT_tm (E' := sh.D) (d := d) sh.tms Prod.snd hn fun q sl hq h0 => ?_
    have hgs : ∀ (l : List ((Nat × Nat) × EntS)) (pr : sh.D → HL (tkk l)) q sl, look q (unT l pr) = some sl → sl.gs = [] := by
      intro l
      induction l with
      | nil => intro pr q sl h; cases h
      | cons x l ih =>
        intro pr q sl h
        obtain ⟨q', x⟩ := x
        cases x <;> simp only [unT, look] at h <;> split at h
        all_goals first | (obtain rfl := Option.some.inj h; rfl) | exact ih _ _ _ h
    have hq' : look q (unpack sh).tm = some sl := hq
    have hon : (unpack sh).on sl.gs d = true := by rw [hgs _ _ _ _ hq]; rfl
    obtain ⟨v, u, h1, h2, h3⟩ := hp.ents q.1 q.2 (sl.ent.ev d) (by rw [gr_tm, show look (q.1, q.2) (unpack sh).tm = some sl from hq']; simp only []; rw [if_pos hon])
    rw [h0] at h2
    obtain rfl := Option.some.inj h2
    refine ⟨v, h1, ?_⟩
    split
    · rename_i k x hx
      rw [hx] at h3
      exact h3
    · rename_i j hj
      rw [hj] at h3
      obtain ⟨R, g1, g2⟩ := h3
      refine g2 fun hR => ?_
      subst hR
      rw [gr_rt] at g1
      split at g1 <;> try (cases g1; done)
      rename_i q2 hq2
      split at g1 <;> try (cases g1; done)
      have : ∀ (l : List (Kt × Mk × (Nat × Nat))) (j0 : Nat) (pr : sh.D → HL (l.map (·.1))), look j (unR l j0 pr) = some q2 → ∃ R, q2 = ([], some R) := by
        intro l
        induction l with
        | nil => intro j0 pr h; cases h
        | cons x l ih =>
          intro j0 pr h
          obtain ⟨k, m, y⟩ := x
          simp only [unR, look] at h
          split at h
          · exact ⟨_, (Option.some.inj h).symm⟩
          · exact ih _ _ h
      obtain ⟨R, rfl⟩ := this _ _ _ hq2
      cases g1
    · trivial
end
end Go.Lift

namespace Go.Lift
set_option linter.unusedVariables false
set_option linter.unusedSimpArgs false

theorem ResR_keep {w : World} {S S' : Nat → Prop} (hS : ∀ b, S b → S' b) : ∀ (rs : List (Kt × RM)) (d : HL (rs.map (·.1))) (us : List Value) (F : List Nat), ResR w S rs d us F → ResR w S' rs d us F
  | [], d, us, F, h => h
  | (k, .val) :: rs, d, us, F, h => by
    obtain ⟨v, vs', rfl, ⟨cs, h1, h1'⟩, h2⟩ := h
    exact ⟨v, vs', rfl, ⟨cs, h1, Rz_keep ⟨Nat.le_refl _, fun b hb _ => ⟨rfl, hS b hb⟩⟩ _ _ _ _ _ (fun _ _ => rfl) h1'⟩, ResR_keep hS rs _ _ _ h2⟩
  | (k, .own m) :: rs, d, us, F, h => by
    obtain ⟨v, vs', F1, F2, rfl, rfl, ⟨cs, h1, h1'⟩, h2⟩ := h
    exact ⟨v, vs', F1, F2, rfl, rfl, ⟨cs, h1, Rz_keep ⟨Nat.le_refl _, fun b hb _ => ⟨rfl, hS b hb⟩⟩ _ _ _ _ _ (fun _ _ => rfl) h1'⟩, ResR_keep hS rs _ _ _ h2⟩
theorem MutR_keep {w : World} {S S' : Nat → Prop} (hS : ∀ b, S b → S' b) : ∀ (ps : List (Kt × PM)) (d : HL ((mutsOf ps).map (·.1))) (us : List Value) (F : List Nat), MutR w S ps d us F → MutR w S' ps d us F
  | [], d, us, F, h => h
  | (k, .val) :: ps, d, us, F, h => by
    obtain ⟨v, vs', rfl, h2⟩ := h
    exact ⟨v, vs', rfl, MutR_keep hS ps _ _ _ h2⟩
  | (k, .tak m) :: ps, d, us, F, h => by
    obtain ⟨v, vs', rfl, h2⟩ := h
    exact ⟨v, vs', rfl, MutR_keep hS ps _ _ _ h2⟩
  | (k, .mut m) :: ps, d, us, F, h => by
    obtain ⟨v, vs', F1, F2, rfl, rfl, ⟨cs, h1, h1'⟩, h2⟩ := h
    exact ⟨v, vs', F1, F2, rfl, rfl, ⟨cs, h1, Rz_keep ⟨Nat.le_refl _, fun b hb _ => ⟨rfl, hS b hb⟩⟩ _ _ _ _ _ (fun _ _ => rfl) h1'⟩, MutR_keep hS ps _ _ _ h2⟩

def resGet (tmps : Array Value) : ResultVar → Sem Value
  | .tmp t => pure (tmps.getD t undef)
  | .cell a t => do loadVar t (← asAddr (tmps.getD a undef))

theorem results_list {P : Program} {fn : Func} {tmps : Array Value} {w : World} {us : List Value} (h : (fn.results.toList.mapM (resGet tmps)).run P w = .ok us w) : (results fn tmps).run P w = .ok (tup us) w := by
  have e : (fn.results.mapM (resGet tmps)).run P w = .ok us.toArray w := by
    rw [Array.mapM_eq_mapM_toList]
    simp [h]
  have e2 : results fn tmps = (fn.results.mapM (resGet tmps)) >>= fun vs => pure (if h : vs.size = 1 then vs[0] else .tuple vs) := rfl
  rw [e2]
  simp only [Sem.run_bind, e]
  match us with
  | [] => simp [tup]
  | [v] => simp [tup]
  | v :: u :: l => simp [tup]

theorem run_loadVar {P : Program} {w : World} {t : TypeId} {k : Kt} (ht : tyOk P t k = true) {b : Nat} {cs : List Value} (hc : CellsAt w b 0 cs) (hl : cs.length = k.size) (hk : k.isAgg = false → k.size = 1) :
    ∃ v, (loadVar t ⟨b, 0, none⟩).run P w = .ok v w ∧ Shows k v cs := by
  cases ha : k.isAgg with
  | true =>
    refine ⟨.agg cs.toArray, ?_, by simp [Shows, ha]⟩
    simp [loadVar, run_isAgg ht, ha, run_sizeOf' ht, run_loadCells' b 0 cs hc hl]
  | false =>
    rw [hk ha] at hl
    match cs, hl with
    | [v], _ =>
      refine ⟨v, ?_, by simp [Shows, ha]⟩
      have := hc 0 v rfl
      simp at this
      simp [loadVar, run_isAgg ht, ha, this]

section
variable {a : Act} {w : World} {S : Nat → Prop} {V : Nat → Value} {Fp : Nat → List Nat}

theorem cell_res {P : Program} {k : Kt} {m : Mk} {T : TypeId} {t : Nat} {x : k.T} {v : Value} {F : List Nat} (hT : tyOk P T k = true) (hk : k.isAgg = true ∨ k.size = 1) (h : ∃ cs, Shows (.ptr T k) v cs ∧ Rz w S (.ptr T k) (.ow m) F x cs) (ht : a.tmps[t]? = some v) :
    ∃ u, (resGet a.tmps (.cell t T)).run P w = .ok u w ∧ ∃ F', (∀ b ∈ F', b ∈ F) ∧ (F.Nodup → F'.Nodup) ∧ ∃ cs, Shows k u cs ∧ Rz w S k m F' x cs := by
  obtain ⟨cs, hs, g, C, Fe, h1, rfl, hh, hz⟩ := h
  have hs : cs = [v] := hs
  subst hs
  have h1 : v = .pointer (some ⟨g, 0, none⟩) := (List.cons.inj h1).1
  subst h1
  have hlen := Rz_len _ _ _ _ _ _ _ hz
  have hc : CellsAt w g 0 C.toList := fun j v hj => by
    have : w.cell? ⟨g, 0 + j, none⟩ = C[0 + j]? := cell_of_block hh
    rw [this, Nat.zero_add]
    simpa using hj
  obtain ⟨u, h2, h3⟩ := run_loadVar hT hc hlen fun h => hk.resolve_left (by rw [h]; simp)
  refine ⟨u, ?_, Fe, fun b hb => List.mem_cons_of_mem _ hb, fun hn => (List.nodup_cons.1 hn).2, C.toList, h3, hz⟩
  have e : a.tmps.getD t undef = .pointer (some ⟨g, 0, none⟩) := by simp [Array.getD_eq_getD_getElem?, ht]
  simp [resGet, e, asAddr, h2]

/-- **What is returned.** -/
theorem res_ok {P : Program} (hd : ∀ r r', r ≠ r' → ∀ b ∈ Fp r, b ∉ Fp r') (hn : ∀ r, (Fp r).Nodup) {tl : List (Kt × Mk × (Nat × Nat))} {tlt : Nat → List ((Nat × Nat) × EntS)} : ∀ (rs : List (Kt × RM)) (vs : List ResultVar) (j : Nat) (x : HL ((rtsR rs vs tl).map (·.1))) (y : HL (tkk (tmsR rs vs j tlt))),
    resChk P rs vs = true → RtOk w S V Fp (rtsR rs vs tl) j x → TmOk a w S V (tmsR rs vs j tlt) y →
      ∃ us F j' y', (vs.mapM (resGet a.tmps)).run P w = .ok us w ∧ ResR w S rs (outR (tl := tl) (tlt := tlt) rs vs j x y).1 us F ∧ (∀ b ∈ F, ∃ i, j ≤ i ∧ i < j' ∧ b ∈ Fp i) ∧ F.Nodup ∧ j ≤ j' ∧ RtOk w S V Fp tl j' (outR (tl := tl) (tlt := tlt) rs vs j x y).2 ∧ TmOk a w S V (tlt j') y'
  | [], [], j, x, y, hc, hr, ht => ⟨[], [], j, y, by simp, ⟨rfl, rfl⟩, by simp, List.nodup_nil, Nat.le_refl _, hr, ht⟩
  | [], _ :: _, j, x, y, hc, hr, ht => by simp [resChk] at hc
  | _ :: _, [], j, x, y, hc, hr, ht => by simp [resChk] at hc
  | (k, .val) :: rs, .tmp t :: vs, j, x, y, hc, hr, ht => by
    obtain ⟨us, F, j', y', h1, h2, h3, h4, h5, h6, h7⟩ := res_ok hd hn rs vs j x y.2 (by simpa [resChk] using hc) hr ht.2
    obtain ⟨u, g1, g2⟩ := ht.1 rfl
    have e : a.tmps.getD t undef = u := by simp [Array.getD_eq_getD_getElem?, g1]
    exact ⟨u :: us, F, j', y', by simp [resGet, e, h1], ⟨u, us, rfl, g2, h2⟩, h3, h4, h5, h6, h7⟩
  | (k, .own m) :: rs, .tmp t :: vs, j, x, y, hc, hr, ht => by
    obtain ⟨us, F, j', y', h1, h2, h3, h4, h5, h6, h7⟩ := res_ok hd hn rs vs (j + 1) x.2 y (by simpa [resChk] using hc) hr.2 ht.2
    have g1 : a.tmps[t]? = some (V j) := ht.1 rfl
    have e : a.tmps.getD t undef = V j := by simp [Array.getD_eq_getD_getElem?, g1]
    refine ⟨V j :: us, Fp j ++ F, j', y', by simp [resGet, e, h1], ⟨V j, us, _, _, rfl, rfl, hr.1, h2⟩, fun b hb => ?_, List.nodup_append.2 ⟨hn j, h4, fun b hb c hc' e => ?_⟩, by omega, h6, h7⟩
    · rcases List.mem_append.1 hb with hb | hb
      · exact ⟨j, Nat.le_refl _, by omega, hb⟩
      · obtain ⟨i, i1, i2, i3⟩ := h3 b hb; exact ⟨i, by omega, i2, i3⟩
    · subst e
      obtain ⟨i, i1, i2, i3⟩ := h3 b hc'
      exact hd j i (by omega) b hb i3
  | (k, .val) :: rs, .cell t T :: vs, j, x, y, hc, hr, ht => by
    simp only [resChk, Bool.and_eq_true, decide_eq_true_eq] at hc
    obtain ⟨us, F, j', y', h1, h2, h3, h4, h5, h6, h7⟩ := res_ok hd hn rs vs (j + 1) x.2 y hc.2 hr.2 ht.2
    obtain ⟨u, g1, F', g2, g3, cs, g4, g5⟩ := cell_res hc.1.1 hc.1.2 hr.1 (ht.1 rfl)
    have hF : F' = [] := (Rz_free _ .sh _ _ _ rfl g5).1
    subst hF
    refine ⟨u :: us, F, j', y', by simp [g1, h1], ⟨u, us, rfl, ⟨cs, g4, g5⟩, h2⟩, fun b hb => ?_, h4, by omega, h6, h7⟩
    obtain ⟨i, i1, i2, i3⟩ := h3 b hb; exact ⟨i, by omega, i2, i3⟩
  | (k, .own m) :: rs, .cell t T :: vs, j, x, y, hc, hr, ht => by
    simp only [resChk, Bool.and_eq_true, decide_eq_true_eq] at hc
    obtain ⟨us, F, j', y', h1, h2, h3, h4, h5, h6, h7⟩ := res_ok hd hn rs vs (j + 1) x.2 y hc.2 hr.2 ht.2
    obtain ⟨u, g1, F', g2, g3, cs, g4, g5⟩ := cell_res hc.1.1 hc.1.2 hr.1 (ht.1 rfl)
    refine ⟨u :: us, F' ++ F, j', y', by simp [g1, h1], ⟨u, us, F', F, rfl, rfl, ⟨cs, g4, g5⟩, h2⟩, fun b hb => ?_, List.nodup_append.2 ⟨g3 (hn j), h4, fun b hb c hc' e => ?_⟩, by omega, h6, h7⟩
    · rcases List.mem_append.1 hb with hb | hb
      · exact ⟨j, Nat.le_refl _, by omega, g2 b hb⟩
      · obtain ⟨i, i1, i2, i3⟩ := h3 b hb; exact ⟨i, by omega, i2, i3⟩
    · subst e
      obtain ⟨i, i1, i2, i3⟩ := h3 b hc'
      exact hd j i (by omega) b (g2 b hb) i3

theorem mut_ok (hd : ∀ r r', r ≠ r' → ∀ b ∈ Fp r, b ∉ Fp r') (hn : ∀ r, (Fp r).Nodup) : ∀ (ps : List (Kt × PM)) (i j : Nat) (x : HL ((rtsM ps i).map (·.1))) (y : HL (tkk (tmsM ps i j))) (vs : List Value), vs.length = ps.length → (mutsOf ps = [] ∨ ∀ n v, vs[n]? = some v → a.tmps[i + n]? = some v) →
    RtOk w S V Fp (rtsM ps i) j x → TmOk a w S V (tmsM ps i j) y → ∃ F, MutR w S ps (outM ps i x) vs F ∧ (∀ b ∈ F, ∃ n, j ≤ n ∧ b ∈ Fp n) ∧ F.Nodup
  | [], i, j, x, y, vs, hl, hv, hr, ht => ⟨[], rfl, by simp, List.nodup_nil⟩
  | (k, .val) :: ps, i, j, x, y, vs, hl, hv, hr, ht => by
    match vs, hl with
    | v :: vs, hl =>
      obtain ⟨F, h1, h2, h3⟩ := mut_ok hd hn ps (i + 1) j x y vs (by simpa using hl) (hv.imp (fun h => h) fun hv n u hu => by have := hv (n + 1) u (by simpa using hu); rw [← this]; congr 1; omega) hr ht
      exact ⟨F, ⟨v, vs, rfl, h1⟩, h2, h3⟩
  | (k, .tak m) :: ps, i, j, x, y, vs, hl, hv, hr, ht => by
    match vs, hl with
    | v :: vs, hl =>
      obtain ⟨F, h1, h2, h3⟩ := mut_ok hd hn ps (i + 1) j x y vs (by simpa using hl) (hv.imp (fun h => h) fun hv n u hu => by have := hv (n + 1) u (by simpa using hu); rw [← this]; congr 1; omega) hr ht
      exact ⟨F, ⟨v, vs, rfl, h1⟩, h2, h3⟩
  | (k, .mut m) :: ps, i, j, x, y, vs, hl, hv, hr, ht => by
    match vs, hl with
    | v :: vs, hl =>
      have hv := hv.resolve_left (by simp [mutsOf])
      obtain ⟨F, h1, h2, h3⟩ := mut_ok hd hn ps (i + 1) (j + 1) x.2 y vs (by simpa using hl) (.inr fun n u hu => by have := hv (n + 1) u (by simpa using hu); rw [← this]; congr 1; omega) hr.2 ht.2
      have e : v = V j := by
        have g1 : a.tmps[i]? = some (V j) := ht.1 rfl
        have := hv 0 v rfl
        rw [Nat.add_zero, g1] at this
        exact (Option.some.inj this).symm
      refine ⟨Fp j ++ F, ⟨v, vs, Fp j, F, rfl, rfl, by rw [e]; exact hr.1, h1⟩, fun b hb => ?_, List.nodup_append.2 ⟨hn j, h3, fun b hb c hc' e => ?_⟩⟩
      · rcases List.mem_append.1 hb with hb | hb
        · exact ⟨j, Nat.le_refl _, hb⟩
        · obtain ⟨n, n1, n2⟩ := h2 b hb; exact ⟨n, by omega, n2⟩
      · subst e
        obtain ⟨n, n1, n2⟩ := h2 b hc'
        exact hd j n (by omega) b hb n2
end

/-! ### The whole function -/
def keepN (ps : List (Kt × PM)) : Nat := if (mutsOf ps).isEmpty then 0 else ps.length
def c_fn (P : Program) (tab : Tab P) (fn : Func) (sig : Sig) (hi : Hint) : Option (Nat → HL (sig.ps.map (·.1)) → Option sig.Out) := match fn.body with
  | none => none
  | some c =>
    if decide (sig.ps.length ≤ fn.ntmps) && resChk P sig.rs fn.results.toList && nodupK (retShape sig fn.results.toList).tms then
      match c_code P tab (keepN sig.ps, fn.ntmps) sig.Out c [(none, retShape sig fn.results.toList)] hi (iniS sig.ps) with
      | none => none
      | some cr => match c_into (R := sig.Out) cr.nrm cr.s' (retShape sig fn.results.toList) with
        | none => none
        | some f => some fun k d => cr.den k (fun x => some (retOut sig fn.results.toList x), ()) (f fun x => some (retOut sig fn.results.toList x)) d
    else none

theorem c_fn_ok {P : Program} {Gl : World → Prop} {tab : Tab P} (hm : P.follows .mixedOrders = true) (htab : ∀ f sp, (f, sp) ∈ tab.fs → FnOk P Gl f sp) {f : FuncId} {fn : Func} (hf : P.funcs[f]? = some fn) {sig : Sig} {hi : Hint} {den : Nat → HL (sig.ps.map (·.1)) → Option sig.Out}
    (h : c_fn P tab fn sig hi = some den) : FnOk P Gl f ⟨sig, den⟩ := by
  unfold c_fn at h
  split at h <;> try (cases h; done)
  rename_i c hc
  split at h <;> try (cases h; done)
  rename_i hchk
  simp only [Bool.and_eq_true, decide_eq_true_eq] at hchk
  split at h <;> try (cases h; done)
  rename_i cr hcr
  split at h <;> try (cases h; done)
  rename_i fi hfi
  obtain rfl := Option.some.inj h
  intro k d r hr w S vs F hgl hargs hn hS
  refine calls_of_wp hf hc ?_
  have hlen : vs.length = sig.ps.length := by
    obtain ⟨_, h1, _⟩ := args_ok (e := d) sig.ps 0 id vs F hargs hn
    exact h1
  have hini := ini_ok hgl hargs hn hS (nt := fn.ntmps) (np := keepN sig.ps) hchk.1.1
  have post : ∀ (x : (retShape sig fn.results.toList).D) (a' : Act) (w' : World), some (retOut sig fn.results.toList x) = some r → GSat ⟨w, S, (· ∈ F), (keepN sig.ps, fn.ntmps), vs, Gl, hgl⟩ ((unpack (retShape sig fn.results.toList)).gr x) a' w' →
      a'.defers = [] ∧ ∃ v, (results fn a'.tmps).run P w' = .ok v w' ∧ ∃ us Fr' Fm, Ending.returned v = .returned (tup us) ∧ Fr w w' (· ∈ F) ∧ (Fr' ++ Fm).Nodup ∧ (∀ b ∈ Fr' ++ Fm, b ∈ F ∨ w.heap.size ≤ b) ∧
        ResR w' (After S F w.heap.size (Fr' ++ Fm)) sig.rs r.1 us Fr' ∧ MutR w' (After S F w.heap.size (Fr' ++ Fm)) sig.ps r.2 vs Fm := by
    intro x a' w' hx hs
    obtain ⟨V, Fp, hp⟩ := hs.pre
    obtain ⟨hrt, htm⟩ := unpack_all hchk.2 hp
    obtain ⟨us, Fr', j', y', h1, h2, h3, h4, h5, h6, h7⟩ := res_ok (P := P) hp.mem.disj hp.mem.nodup sig.rs fn.results.toList 0 x.1 x.2 hchk.1.2 hrt htm
    obtain ⟨Fm, m1, m2, m3⟩ := mut_ok hp.mem.disj hp.mem.nodup sig.ps 0 j' _ y' vs hlen (by
      cases hmu : mutsOf sig.ps with
      | nil => exact .inl rfl
      | cons q l =>
        refine .inr fun n v hv => ?_
        rw [Nat.zero_add]
        refine hp.size.2 n v ?_ hv
        have := (List.getElem?_eq_some_iff.1 hv).1
        show n < keepN sig.ps
        unfold keepN
        rw [hmu]
        simp only [List.isEmpty_cons, Bool.false_eq_true, if_false]
        omega) h6 h7
    have hx := Option.some.inj hx
    have hall : ∀ b ∈ Fr' ++ Fm, ∃ i, b ∈ Fp i := fun b hb => by
      rcases List.mem_append.1 hb with hb | hb
      · obtain ⟨i, _, _, h⟩ := h3 b hb; exact ⟨i, h⟩
      · obtain ⟨i, _, h⟩ := m2 b hb; exact ⟨i, h⟩
    have hSh : ∀ b, Cx.Sh ⟨w, S, (· ∈ F), (keepN sig.ps, fn.ntmps), vs, Gl, hgl⟩ Fp b → After S F w.heap.size (Fr' ++ Fm) b := fun b hb => ⟨hb.1, fun h => by
      obtain ⟨i, hi⟩ := hall b h
      exact hb.2 i hi⟩
    refine ⟨hp.defers, tup us, results_list h1, us, Fr', Fm, rfl, ⟨hp.mem.os, hp.mem.tape, hp.mem.output, hp.mem.size, hp.mem.frame⟩, List.nodup_append.2 ⟨h4, m3, fun b hb c hc' e => ?_⟩, fun b hb => ?_, ?_, ?_⟩
    · subst e
      obtain ⟨i, _, i2, i3⟩ := h3 b hb
      obtain ⟨i', i4, i5⟩ := m2 b hc'
      exact hp.mem.disj i i' (by omega) b i3 i5
    · obtain ⟨i, hi⟩ := hall b hb
      exact hp.mem.own i b hi
    · rw [← hx]; exact ResR_keep hSh _ _ _ _ h2
    · rw [← hx]; exact MutR_keep hSh _ _ _ _ m1
  refine c_code_ok hm htab c _ hi (iniS sig.ps) cr hcr k (_, ()) _ d r hr ⟨w, S, (· ∈ F), (keepN sig.ps, fn.ntmps), vs, Gl, hgl⟩ _ w _ rfl rfl hini (fun e' a' w' hK hs => ?_) fun id sh h' hat x a' w' hx hs => ?_
  · obtain ⟨x, h1, h2⟩ := c_into_ok hfi hK
    exact post x a' w' h1 (h2 _ _ _ hs)
  · cases hat with
    | here => exact post x a' w' hx hs
    | there hne hat => cases hat

/-! ### A function that calls itself -/
def recN {A B : Type} (F : (Nat → A → Option B) → Nat → A → Option B) : Nat → A → Option B
  | 0, _ => none
  | n + 1, a => F (fun _ => recN F n) (n + 1) a

theorem c_rec_ok {P : Program} {Gl : World → Prop} {tab : Tab P} (hm : P.follows .mixedOrders = true) (htab : ∀ f sp, (f, sp) ∈ tab.fs → FnOk P Gl f sp) {f : FuncId} {fn : Func} (hf : P.funcs[f]? = some fn) {sig : Sig} {hi : Hint}
    {F : (Nat → HL (sig.ps.map (·.1)) → Option sig.Out) → Nat → HL (sig.ps.map (·.1)) → Option sig.Out} (h : ∀ den, c_fn P ⟨(f, ⟨sig, den⟩) :: tab.fs, tab.ks, tab.tk, tab.pf⟩ fn sig hi = some (F den)) : FnOk P Gl f ⟨sig, recN F⟩ := by
  have key : ∀ n, FnOk P Gl f ⟨sig, fun _ => recN F n⟩ := by
    intro n
    induction n with
    | zero => intro k d r hr; cases hr
    | succ n ih =>
      have := c_fn_ok (Gl := Gl) hm (tab := ⟨(f, ⟨sig, fun _ => recN F n⟩) :: tab.fs, tab.ks, tab.tk, tab.pf⟩) (fun g sp hg => by
        rcases List.mem_cons.1 hg with e | hg
        · obtain ⟨rfl, rfl⟩ := Prod.mk.inj e; exact ih
        · exact htab g sp hg) hf (h _)
      intro k d r hr
      exact this (n + 1) d r hr
  intro k d r hr
  exact key k k d r hr
end Go.Lift

namespace Go.Lift
set_option linter.unusedVariables false
set_option linter.unusedSimpArgs false
open Go.ChangeShapes

/-! ### Arguments from outside: what is handed in is data of its kind -/
def fldK (P : Program) (rec : TypeId → Kt → Bool) : List Field → Nat → Kt → Bool
  | [], _, .unit => true
  | f :: fs, o, .pair a b => decide (f.offset = o) && decide (P.cellsOf f.type = a.size) && rec f.type a && fldK P rec fs (o + a.size) b
  | _, _, _ => false
/-- The type is just of this kind (no pointers). -/
def tyK (P : Program) : Nat → TypeId → Kt → Bool
  | 0, _, _ => false
  | n + 1, t, k => match P.underlying t, k with
    | some (.int a), .int b => decide (a = b)
    | some .bool, .bool => true
    | some .string, .str => true
    | some (.slice e), .sl T k => decide (T = e) && decide (P.cellsOf e = k.size) && decide (0 < k.size) && tyK P n e k
    | some (.array m e), .arr m' k => decide (m = m') && decide (P.cellsOf e = k.size) && decide (P.cellsOf t = m * k.size) && tyK P n e k
    | some (.struct fs), k => decide (P.cellsOf t = k.size) && fldK P (tyK P n) fs.toList 0 k
    | _, _ => false

/-- Data that may be handed in: numbers in their range, lists that fit into a machine. -/
def okD (P : Program) : (k : Kt) → k.T → Prop
  | .int i, n => (Lit.int i n).wf = true
  | .bool, _ => True
  | .str, s => s.size ≤ reachBytes
  | .unit, _ => True
  | .pair a b, x => okD P a x.1 ∧ okD P b x.2
  | .arr n e, xs => xs.length = n ∧ ∀ x ∈ xs, okD P e x
  | .sl T e, xs => xs.length * P.bytesOf T ≤ reachBytes ∧ ∀ x ∈ xs, okD P e x
  | .ptr _ _, _ => True
  | .unk, _ => True
  | .fn _ _, _ => True
  | .bld _ _, _ => True
  | .ifc _ _, _ => True
  | .fnv, _ => True
  | .map _ _, _ => True
  | .win s, x => okD P s x.1
  | .opt _ _, _ => True

/-- How much data there are. -/
def bulkD : (k : Kt) → k.T → Nat
  | .int _, _ => 1
  | .bool, _ => 1
  | .str, s => s.size + 1
  | .unit, _ => 0
  | .pair a b, x => bulkD a x.1 + bulkD b x.2
  | .arr _ e, xs => (List.map (bulkD e) xs).sum
  | .sl _ e, xs => (List.map (bulkD e) xs).sum + 1
  | .ptr _ _, _ => 0
  | .unk, _ => 0
  | .fn _ _, _ => 0
  | .bld _ _, _ => 0
  | .ifc _ _, _ => 0
  | .fnv, _ => 0
  | .map _ _, _ => 0
  | .win s, x => bulkD s x.1 + 1
  | .opt _ _, _ => 0
structure BulkLaw {H : Type} (B : DataW H → Nat) (BA : List (DataW H) → Nat) : Prop where
  pos : ∀ d, 1 ≤ B d
  str : ∀ b, b.length + 1 ≤ B (.lit (.string b))
  slice : ∀ e s, BA e + 1 ≤ B (.slice e s)
  agg : ∀ p, BA p ≤ B (.agg p)
  cons : ∀ d r, BA (d :: r) = B d + BA r

def Old (W : World) (b : Nat) : Prop := b < W.heap.size

section
variable {H : Type} {enc : TypeId × Value → H} {P : Program} {W : World} {base : Nat} {spare : Nat → Bool} {held : Bool}

theorem spot_of_cell {w : World} {a : Addr} {v : Value} (h : w.cell? a = some v) : a.spot = none ∧ a.block < w.heap.size := by
  unfold World.cell? at h
  split at h
  · rename_i hb
    cases hs : a.spot with
    | none => exact ⟨rfl, heap_lt hb⟩
    | some n => rw [hs] at h; simp at h
  · cases h

theorem weightsAll_mem {e : TypeId} : ∀ {l : List (DataW H)} {d : DataW H}, d ∈ l → ∀ x ∈ d.weights P e, x ∈ DataW.weightsAll P e l
  | [], d, h => by cases h
  | d' :: l, d, h => by
    intro x hx
    rw [DataW.weightsAll, List.mem_append]
    rcases List.mem_cons.1 h with rfl | h
    · exact .inl hx
    · exact .inr (weightsAll_mem h x hx)

abbrev Opens (enc : TypeId × Value → H) (P : Program) (W : World) (base : Nat) (spare : Nat → Bool) (held : Bool) (t : TypeId) (k : Kt) : Prop :=
  ∀ m cs d ps, DataW.trod enc P W base spare held m t cs = some (d, ps) → (∀ x ∈ d.weights P t, x ≤ reachBytes) → ∃ x : k.T, Rz W (Old W) k .sh [] x cs ∧ okD P k x ∧ ∀ (B : DataW H → Nat) (BA : List (DataW H) → Nat), BulkLaw B BA → bulkD k x ≤ B d

theorem open_fields {rec : TypeId → Kt → Bool} (hrec : ∀ t k, rec t k = true → Opens enc P W base spare held t k) {m : Nat} {cs : List Value} : ∀ (fs : List Field) (o : Nat) (k : Kt) (xs : List (DataW H × List MemPlace)), fldK P rec fs o k = true →
    xs.length = fs.length → (∀ (i : Nat) (f : Field), fs[i]? = some f → DataW.trod enc P W base spare held m f.type ((cs.drop f.offset).take (P.cellsOf f.type)) = xs[i]?) → cs.length = o + k.size →
    (∀ x ∈ DataW.weightsEach P (fs.map (·.type)) (xs.map (·.1)), x ≤ reachBytes) → ∃ x : k.T, Rz W (Old W) k .sh [] x (cs.drop o) ∧ okD P k x ∧ ∀ (B : DataW H → Nat) (BA : List (DataW H) → Nat), BulkLaw B BA → bulkD k x ≤ BA (xs.map (·.1)) := by
  intro fs
  induction fs with
  | nil =>
    intro o k xs hk hl hx hc hw
    cases k <;> try (simp [fldK] at hk; done)
    refine ⟨(), ⟨rfl, ?_⟩, trivial, fun B BA _ => Nat.zero_le _⟩
    simp only [Kt.size] at hc
    exact List.drop_eq_nil_of_le (by omega)
  | cons f fs ih =>
    intro o k xs hk hl hx hc hw
    cases k <;> try (simp [fldK] at hk; done)
    rename_i a b
    simp only [fldK, Bool.and_eq_true, decide_eq_true_eq] at hk
    obtain ⟨⟨⟨h1, h2⟩, h3⟩, h4⟩ := hk
    match xs, hl with
    | x :: xs, hl =>
      have h0 := hx 0 f rfl
      rw [h1, h2] at h0
      simp only [Kt.size] at hc
      simp only [List.map_cons, DataW.weightsEach, List.mem_append] at hw
      obtain ⟨y, hy1, hy2, hy3⟩ := hrec _ _ h3 m _ x.1 x.2 h0 (fun u hu => hw u (.inl hu))
      obtain ⟨z, hz1, hz2, hz3⟩ := ih (o + a.size) b xs h4 (by simpa using hl) (fun i f' hf => hx (i + 1) f' (by simpa using hf)) (by omega) (fun u hu => hw u (.inr hu))
      refine ⟨(y, z), ⟨[], [], _, _, rfl, ?_, hy1, hz1⟩, ⟨hy2, hz2⟩, fun B BA hB => by
        rw [List.map_cons, hB.cons]; exact Nat.add_le_add (hy3 B BA hB) (hz3 B BA hB)⟩
      rw [← List.drop_drop, List.take_append_drop]

theorem open_elems {e : TypeId} {k : Kt} (he : Opens enc P W base spare held e k) {m : Nat} {b o : Nat} (hs : P.cellsOf e = k.size) {elems : List (DataW H × List MemPlace)}
    (hel : ∀ i, i < elems.length → (W.cells? base ((⟨b, o, none⟩ : Addr).add (i * P.cellsOf e)) (P.cellsOf e)).bind (DataW.trod enc P W base spare held m e) = elems[i]?) (hw : ∀ x ∈ DataW.weightsAll P e (elems.map (·.1)), x ≤ reachBytes) :
    ∀ j, j ≤ elems.length → ∃ (xs : List k.T) (cc : List Value), xs.length = j ∧ cc.length = j * k.size ∧ RzL (Rz W (Old W) k .sh) [] xs cc ∧ CellsAt W b o cc ∧ (∀ x ∈ xs, okD P k x) ∧ ∀ (B : DataW H → Nat) (BA : List (DataW H) → Nat), BulkLaw B BA → (xs.map (bulkD k)).sum ≤ ((elems.take j).map fun d => B d.1).sum := by
  intro j
  induction j with
  | zero => exact fun _ => ⟨[], [], rfl, by simp, .nil, fun j v h => by simp at h, by simp, fun B BA _ => by simp⟩
  | succ j ih =>
    intro hj
    obtain ⟨xs, cc, h1, h2, h3, h4, h5, h6⟩ := ih (by omega)
    have hx := hel j (by omega)
    rw [List.getElem?_eq_getElem (show j < elems.length by omega)] at hx
    obtain ⟨cs', hc1, hc2⟩ := Option.bind_eq_some_iff.1 hx
    obtain ⟨_, hlen, hcell⟩ := World.cells?_some hc1
    obtain ⟨y, hy1, hy2, hy3⟩ := he m cs' elems[j].1 elems[j].2 hc2 (fun x hx => hw x (weightsAll_mem (d := elems[j].1) (List.mem_map.2 ⟨_, List.getElem_mem _, rfl⟩) x hx))
    refine ⟨xs ++ [y], cc ++ cs', by simp [h1], by simp [h2, hlen, hs, Nat.add_mul], ?_, fun i v hi => ?_, fun x hx => ?_, fun B BA hB => ?_⟩
    · have := h3.append (RzL.single hy1)
      simpa using this
    · by_cases hi' : i < cc.length
      · rw [List.getElem?_append_left hi'] at hi
        exact h4 i v hi
      · rw [List.getElem?_append_right (by omega)] at hi
        have hlt := (List.getElem?_eq_some_iff.1 hi).1
        have := hcell (i - cc.length) (by omega)
        rw [hi] at this
        rw [← this]
        have e1 : ((⟨b, o, none⟩ : Addr).add (j * P.cellsOf e)).add (i - cc.length) = ⟨b, o + i, none⟩ := by
          rw [Addr.add_lit, Addr.add_lit]
          congr 1
          rw [h2, hs]
          rw [h2] at hi'
          omega
        rw [e1]
    · rcases List.mem_append.1 hx with hx | hx
      · exact h5 x hx
      · rw [List.mem_singleton.1 hx]; exact hy2
    · have e1 := h6 B BA hB
      have e2 := hy3 B BA hB
      rw [List.take_add_one, List.getElem?_eq_getElem (show j < elems.length by omega)]
      simp only [List.map_append, List.sum_append, List.map_cons, List.map_nil, List.sum_cons, List.sum_nil, Option.toList_some]
      omega

theorem sum_le_BA {B : DataW H → Nat} {BA : List (DataW H) → Nat} (hB : BulkLaw B BA) : ∀ l : List (DataW H × List MemPlace), (l.map fun d => B d.1).sum ≤ BA (l.map (·.1))
  | [] => Nat.zero_le _
  | d :: l => by
    have := sum_le_BA hB l
    rw [List.map_cons, List.map_cons, List.sum_cons, hB.cons]
    omega
/-- **What is handed in is data of its kind.** -/
theorem open_k : ∀ n t k, tyK P n t k = true → Opens enc P W base spare held t k := by
  intro n
  induction n with
  | zero => intro t k h; simp [tyK] at h
  | succ n ih =>
    intro t k h m cs d ps hd hw
    unfold tyK at h
    split at h
    · rename_i a b hu
      obtain ⟨x, rfl, hx, hwf⟩ := DataW.trod_int hu hd
      have h := of_decide_eq_true h
      subst h
      exact ⟨x, ⟨rfl, .inr ⟨by simp, rfl⟩⟩, hwf, fun B BA hB => hB.pos _⟩
    · rename_i hu
      obtain ⟨x, rfl, hx⟩ := DataW.trod_bool hu hd
      exact ⟨x, ⟨rfl, .inr ⟨by simp, rfl⟩⟩, trivial, fun B BA hB => hB.pos _⟩
    · rename_i hu
      obtain ⟨x, rfl, hx, _⟩ := DataW.trod_string hu hd
      obtain ⟨rfl, _⟩ := Prod.mk.inj hx
      refine ⟨x, ⟨rfl, .inr ⟨by simp, rfl⟩⟩, ?_, fun B BA hB => ?_⟩
      · have := hw x.data.toList.length (by simp [DataW.weights])
        simpa [okD] using this
      · have := hB.str x.data.toList
        rw [Array.length_toList] at this
        exact this
    · rename_i e T k hu
      simp only [Bool.and_eq_true, decide_eq_true_eq] at h
      obtain ⟨⟨⟨rfl, h2⟩, h3⟩, h4⟩ := h
      rcases DataW.trod_slice hu hd with ⟨rfl, hx⟩ | ⟨a, len, cap, elems, rest, n', _, rfl, hx, hb, hl, hm, hlen, hel, hsp, hns⟩
      · exact ⟨[], ⟨rfl, .inr ⟨by simp, none, 0, rfl, capOk0, .inl ⟨rfl, fun _ => rfl⟩⟩⟩, by simp [okD], fun B BA hB => hB.pos _⟩
      · obtain ⟨rfl, _⟩ := Prod.mk.inj hx
        simp only [DataW.weights, hu, List.mem_cons, List.mem_append] at hw
        have hw1 := hw _ (.inl rfl)
        by_cases hz : elems.length = 0
        · refine ⟨[], ⟨rfl, .inr ⟨by simp, some a, cap, ?_, ⟨Nat.zero_le _, by unfold maxLen at hm; omega⟩, .inl ⟨rfl, fun h => by cases h⟩⟩⟩, by simp [okD], fun B BA hB => hB.pos _⟩
          rw [← hlen, hz]; rfl
        · have h0 := hel 0 (by omega)
          rw [List.getElem?_eq_getElem (show 0 < elems.length by omega)] at h0
          obtain ⟨cs', hc1, _⟩ := Option.bind_eq_some_iff.1 h0
          obtain ⟨_, _, hcell⟩ := World.cells?_some hc1
          have hc0 := hcell 0 (by omega)
          have hl' := (World.cells?_some hc1).2.1
          rw [List.getElem?_eq_getElem (by omega)] at hc0
          obtain ⟨hs1, hs2⟩ := spot_of_cell hc0
          obtain ⟨b, o, sp⟩ := a
          have hsp0 : sp = none := by
            unfold Addr.add at hs1
            simpa using hs1
          subst hsp0
          have hblk : b < W.heap.size := by
            rw [Addr.add_lit, Addr.add_lit] at hs2
            exact hs2
          obtain ⟨xs, cc, x1, x2, x3, x4, x5, x6⟩ := open_elems (ih _ _ h4) (elems := elems) h2 (fun i hi => hel i (by omega)) (fun x hx => hw x (.inr (.inl hx))) elems.length (Nat.le_refl _)
          refine ⟨xs, ⟨rfl, .inr ⟨by simp, some ⟨b, o, none⟩, cap, by rw [x1, hlen], ⟨by omega, by unfold maxLen at hm; omega⟩, .inr ⟨b, o, cc, rfl, hblk, hblk, x3, x4⟩⟩⟩, ⟨?_, x5⟩, fun B BA hB => ?_⟩
          · refine Nat.le_trans (Nat.mul_le_mul_right _ ?_) hw1
            simp [x1]
          · have e1 := x6 B BA hB
            rw [List.take_length] at e1
            have e2 := hB.slice (elems.map (·.1)) (rest.map (·.1))
            have e3 := sum_le_BA hB elems
            show (List.map (bulkD k) xs).sum + 1 ≤ _
            omega
    · rename_i m0 e m' k hu
      simp only [Bool.and_eq_true, decide_eq_true_eq] at h
      obtain ⟨⟨⟨rfl, h2⟩, h3⟩, h4⟩ := h
      obtain ⟨xs, mm, _, hx, hl, hxl, hel⟩ := DataW.trod_array hu hd
      obtain ⟨rfl, _⟩ := Prod.mk.inj hx
      simp only [DataW.weights, hu] at hw
      have key : ∀ j, j ≤ m0 → ∃ ys : List k.T, ys.length = j ∧ RzL (Rz W (Old W) k .sh) [] ys (cs.take (j * k.size)) ∧ (∀ x ∈ ys, okD P k x) ∧ ∀ (B : DataW H → Nat) (BA : List (DataW H) → Nat), BulkLaw B BA → (ys.map (bulkD k)).sum ≤ ((xs.take j).map fun d => B d.1).sum := by
        intro j
        induction j with
        | zero => exact fun _ => ⟨[], rfl, by simpa using RzL.nil, by simp, fun B BA _ => by simp⟩
        | succ j ihj =>
          intro hj
          obtain ⟨ys, y1, y2, y3, y4⟩ := ihj (by omega)
          have h0 := hel j (by omega)
          rw [List.getElem?_eq_getElem (show j < xs.length by omega), h2] at h0
          obtain ⟨y, z1, z2, z3⟩ := ih _ _ h4 mm _ xs[j].1 xs[j].2 h0 (fun x hx => hw x (weightsAll_mem (d := xs[j].1) (List.mem_map.2 ⟨_, List.getElem_mem _, rfl⟩) x hx))
          refine ⟨ys ++ [y], by simp [y1], ?_, fun x hx => ?_, fun B BA hB => ?_⟩
          · have := y2.append (RzL.single z1)
            rw [Nat.add_mul, Nat.one_mul, List.take_add]
            simpa using this
          · rcases List.mem_append.1 hx with hx | hx
            · exact y3 x hx
            · rw [List.mem_singleton.1 hx]; exact z2
          · have e1 := y4 B BA hB
            have e2 := z3 B BA hB
            rw [List.take_add_one, List.getElem?_eq_getElem (show j < xs.length by omega)]
            simp only [List.map_append, List.sum_append, List.map_cons, List.map_nil, List.sum_cons, List.sum_nil, Option.toList_some]
            omega
      obtain ⟨ys, y1, y2, y3, y4⟩ := key m0 (Nat.le_refl _)
      rw [List.take_of_length_le (by omega)] at y2
      refine ⟨ys, ⟨y1, y2⟩, ⟨y1, y3⟩, fun B BA hB => ?_⟩
      have e1 := y4 B BA hB
      rw [List.take_of_length_le (by omega)] at e1
      exact Nat.le_trans e1 (Nat.le_trans (sum_le_BA hB xs) (hB.agg _))
    · rename_i k x0 k1 fs hu
      simp only [Bool.and_eq_true, decide_eq_true_eq] at h
      obtain ⟨xs, mm, _, hx, hl, hxl, hel⟩ := DataW.trod_struct hu hd
      obtain ⟨rfl, _⟩ := Prod.mk.inj hx
      simp only [DataW.weights, hu] at hw
      have := open_fields (fun t k h => ih t k h) (m := mm) (cs := cs) fs.toList 0 k xs h.2 (by simpa using hxl) (fun i f hf => hel i f (by simpa using hf)) (by omega) hw
      rw [List.drop_zero] at this
      obtain ⟨x, x1, x2, x3⟩ := this
      exact ⟨x, x1, x2, fun B BA hB => Nat.le_trans (x3 B BA hB) (hB.agg _)⟩
    · cases h

/-- The value's cells are the kind's. -/
theorem shows_of_ok {r : Reach} {t : TypeId} {n : Nat} {k : Kt} (hk : tyK P n t k = true) {v : Value} (hv : Value.okWide P W r base t v) : ∃ cs, v.cells.toList = cs ∧ Shows k v cs := by
  cases n with
  | zero => simp [tyK] at hk
  | succ n =>
    have single : ∀ {v : Value}, (∀ cs, v ≠ .agg cs) → v.cells.toList = [v] := by
      intro v h
      cases v <;> first | rfl | exact absurd rfl (h _)
    refine ⟨_, rfl, ?_⟩
    unfold tyK at hk
    unfold Value.okWide at hv
    split at hk <;> try (rename_i hu; rw [hu] at hv)
    · rw [single (fun cs e => by subst e; simp [Cell.okWide, Cell.ok, hu] at hv)]; rfl
    · rw [single (fun cs e => by subst e; simp [Cell.okWide, Cell.ok, hu] at hv)]; rfl
    · rw [single (fun cs e => by subst e; simp [Cell.okWide, Cell.ok, hu] at hv)]; rfl
    · rw [single (fun cs e => by subst e; simp [Cell.okWide, Cell.ok, hu] at hv)]; rfl
    · obtain ⟨cs, rfl, _⟩ := hv
      simp [Shows, Kt.isAgg, Value.cells]
    · rename_i k x0 k1 fs
      obtain ⟨cs, rfl, _⟩ := hv
      have : k.isAgg = true := by
        simp only [Bool.and_eq_true] at hk
        generalize fs.toList = l at hk
        cases l <;> cases k <;> first | rfl | (simp [fldK] at hk; done)
      simp [Shows, this, Value.cells]
    · cases hk
end
end Go.Lift

namespace Go.Lift
set_option linter.unusedVariables false
set_option linter.unusedSimpArgs false

/-! ### Functions whose contracts are given -/
/-- Values alone. -/
def allVal : List (Kt × PM) → Bool
  | [] => true
  | (_, .val) :: l => allVal l
  | _ => false
theorem args_vals : ∀ {ps : List (Kt × PM)}, allVal ps = true → ∀ {w : World} {S : Nat → Prop} {d : HL (ps.map (·.1))} {vs : List Value} {F : List Nat}, ArgsR w S ps d vs F → F = []
  | [], _, w, S, d, vs, F, h => h.2
  | (k, .val) :: ps, hm, w, S, d, vs, F, h => by
    obtain ⟨v, vs', rfl, _, h2⟩ := h
    exact args_vals (ps := ps) hm h2
  | (k, .mut m) :: ps, hm, w, S, d, vs, F, h => by cases hm
  | (k, .tak m) :: ps, hm, w, S, d, vs, F, h => by cases hm
theorem mut_vals : ∀ {ps : List (Kt × PM)}, allVal ps = true → ∀ {w w' : World} {S S' : Nat → Prop} {d : HL (ps.map (·.1))} {d' : HL ((mutsOf ps).map (·.1))} {vs : List Value} {F : List Nat}, ArgsR w S ps d vs F → MutR w' S' ps d' vs []
  | [], _, w, w', S, S', d, d', vs, F, h => rfl
  | (k, .val) :: ps, hm, w, w', S, S', d, d', vs, F, h => by
    obtain ⟨v, vs', rfl, _, h2⟩ := h
    exact ⟨v, vs', rfl, mut_vals (ps := ps) hm h2⟩
  | (k, .mut m) :: ps, hm, w, w', S, S', d, d', vs, F, h => by cases hm
  | (k, .tak m) :: ps, hm, w, w', S, S', d, d', vs, F, h => by cases hm

theorem fr_of_below {w w' : World} {F : List Nat} (h : RowKit.Below w.heap.size w w') : Fr w w' (· ∈ F) := ⟨h.os, h.tape, h.output, h.size, fun b hb _ => h.block b hb⟩
theorem below_of_fr {w w' : World} (h : Fr w w' (· ∈ ([] : List Nat))) : RowKit.Below w.heap.size w w' := ⟨h.os, h.tape, h.output, h.size, fun b hb => h.frame b hb (by simp)⟩

/-- A function of values, by its contract. -/
theorem fnOk_of {P : Program} {Gl : World → Prop} {f : FuncId} {sp : Spec} (hm : allVal sp.sig.ps = true)
    (h : ∀ k d r, sp.den k d = some r → ∀ (w : World) (S : Nat → Prop) (vs : List Value), Gl w → ArgsR w S sp.sig.ps d vs [] → Calls P f vs.toArray w fun e w' => ∃ us F', e = .returned (tup us) ∧ RowKit.Below w.heap.size w w' ∧ F'.Nodup ∧ (∀ b ∈ F', w.heap.size ≤ b) ∧
      ResR w' (After S [] w.heap.size F') sp.sig.rs r.1 us F') : FnOk P Gl f sp := by
  intro k d r hr w S vs F hgl hargs hn hS
  obtain rfl := args_vals hm hargs
  refine (h k d r hr w S vs (hgl w ⟨rfl, rfl, rfl, Nat.le_refl _, fun _ _ _ => rfl⟩) hargs).mono fun e w' ⟨us, F', h1, h2, h3, h4, h5⟩ => ?_
  exact ⟨us, F', [], h1, fr_of_below h2, by simpa using h3, fun b hb => .inr (h4 b (by simpa using hb)), by simpa using h5, mut_vals hm hargs⟩

/-! ### What values are -/
theorem val_int {w : World} {S : Nat → Prop} {k : IntKind} {x : Int} {v : Value} (h : ∃ cs, Shows (.int k) v cs ∧ Rz w S (.int k) .sh [] x cs) : v = .int k x := by
  obtain ⟨cs, h1, _, h2⟩ := h
  have h1 : cs = [v] := h1
  rcases h2 with h2 | h2
  · cases h2.1
  · rw [h1] at h2; exact (List.cons.inj h2.2).1
theorem val_str {w : World} {S : Nat → Prop} {x : ByteArray} {v : Value} (h : ∃ cs, Shows .str v cs ∧ Rz w S .str .sh [] x cs) : v = .string x := by
  obtain ⟨cs, h1, _, h2⟩ := h
  have h1 : cs = [v] := h1
  rcases h2 with h2 | h2
  · cases h2.1
  · rw [h1] at h2; exact (List.cons.inj h2.2).1
theorem val_bool {w : World} {S : Nat → Prop} {x : Bool} {v : Value} (h : ∃ cs, Shows .bool v cs ∧ Rz w S .bool .sh [] x cs) : v = .bool x := by
  obtain ⟨cs, h1, _, h2⟩ := h
  have h1 : cs = [v] := h1
  rcases h2 with h2 | h2
  · cases h2.1
  · rw [h1] at h2; exact (List.cons.inj h2.2).1
/-- One cell an element. -/
def enc1 : (k : Kt) → k.T → Value
  | .int k, n => .int k n
  | .bool, b => .bool b
  | .str, s => .string s
  | _, _ => undef
def Kt.atom : Kt → Bool
  | .int _ => true
  | .bool => true
  | .str => true
  | _ => false
theorem rz_atom {w : World} {S : Nat → Prop} {k : Kt} (hk : k.atom = true) {F : List Nat} {x : k.T} {cs : List Value} (h : Rz w S k .sh F x cs) : cs = [enc1 k x] := by
  cases k <;> try (cases hk; done)
  all_goals
    rcases h.2 with h2 | h2
    · cases h2.1
    · exact h2.2
theorem rz_atom_mk {w : World} {S : Nat → Prop} {k : Kt} (hk : k.atom = true) (x : k.T) : Rz w S k .sh [] x [enc1 k x] := by
  cases k <;> try (cases hk; done)
  all_goals exact ⟨rfl, .inr ⟨by simp, rfl⟩⟩
theorem rzl_atom {w : World} {S : Nat → Prop} {k : Kt} (hk : k.atom = true) {F : List Nat} {xs : List k.T} {cc : List Value} (h : RzL (Rz w S k .sh) F xs cc) : cc = xs.map (enc1 k) := by
  induction h with
  | nil => rfl
  | cons h t ih => rw [rz_atom hk h, ih]; rfl
theorem rzl_atom_mk {w : World} {S : Nat → Prop} {k : Kt} (hk : k.atom = true) : ∀ xs : List k.T, RzL (Rz w S k .sh) [] xs (xs.map (enc1 k))
  | [] => .nil
  | x :: xs => RzL.cons (F := []) (Fs := []) (rz_atom_mk hk x) (rzl_atom_mk hk xs)
/-- A slice of such. -/
theorem val_sl {w : World} {S : Nat → Prop} {k : Kt} (hk : k.atom = true) {T : TypeId} {xs : List k.T} {v : Value} (h : ∃ cs, Shows (.sl T k) v cs ∧ Rz w S (.sl T k) .sh [] xs cs) :
    ∃ A cap, v = .slice A xs.length cap ∧ CapOk xs.length cap ∧ (Nl A cap xs ∨ ∃ b o, A = some ⟨b, o, none⟩ ∧ S b ∧ b < w.heap.size ∧ CellsAt w b o (xs.map (enc1 k))) := by
  obtain ⟨cs, h1, _, h2⟩ := h
  have h1 : cs = [v] := h1
  rcases h2 with h2 | ⟨_, A, cap, h3, h4, h5⟩
  · cases h2.1
  · rw [h1] at h3
    refine ⟨A, cap, (List.cons.inj h3).1, h4, h5.imp id ?_⟩
    rintro ⟨b, o, cc, e1, e2, e3, e4, e5⟩
    rw [rzl_atom hk e4] at e5
    exact ⟨b, o, e1, e2, e3, e5⟩
theorem res_int (w : World) (S : Nat → Prop) (k : IntKind) (x : Int) : ∃ cs, Shows (.int k) (.int k x) cs ∧ Rz w S (.int k) .sh [] x cs := ⟨_, rfl, rfl, .inr ⟨by simp, rfl⟩⟩
theorem res_str (w : World) (S : Nat → Prop) (x : ByteArray) : ∃ cs, Shows .str (.string x) cs ∧ Rz w S .str .sh [] x cs := ⟨_, rfl, rfl, .inr ⟨by simp, rfl⟩⟩
theorem res_bool (w : World) (S : Nat → Prop) (x : Bool) : ∃ cs, Shows .bool (.bool x) cs ∧ Rz w S .bool .sh [] x cs := ⟨_, rfl, rfl, .inr ⟨by simp, rfl⟩⟩
/-- A new slice that is owned, by its row. -/
theorem res_row {w : World} {k : Kt} (hk : k.atom = true) {T : TypeId} {base : Nat} {xs : List k.T} {v : Value} (h : w.ownsRow base T 1 v xs.length (xs.map (enc1 k))) :
    ∃ F, F.Nodup ∧ (∀ b ∈ F, base ≤ b) ∧ ∀ S : Nat → Prop, ∃ cs, Shows (.sl T k) v cs ∧ Rz w S (.sl T k) (.ow .sh) F xs cs := by
  have hsz : k.size = 1 := by cases k <;> first | rfl | cases hk
  rcases h.2 with ⟨rfl, hx⟩ | ⟨g, cap, cur, rfl, hb, hg, hl, hm, hs, hx⟩
  · exact ⟨[], List.nodup_nil, by simp, fun S => ⟨_, rfl, .inl ⟨rfl, List.length_eq_zero_iff.1 hx, rfl⟩⟩⟩
  · refine ⟨[g], by simp, by simpa using hb, fun S => ⟨_, rfl, .inr ⟨g, cap, cur, [], rfl, rfl, hg, by rw [hs, hsz], ⟨hl, by unfold maxLen at hm; omega⟩, ?_⟩⟩⟩
    rw [hsz]
    rw [hx]
    exact rzl_atom_mk hk xs
end Go.Lift

namespace Go.Lift
set_option linter.unusedVariables false
set_option linter.unusedSimpArgs false
open Go.RowKit

/-! ### Rows that are owned, in the kit's words and in mine -/
theorem grown_fr {w w' : World} {row : Option Nat} (h : w.grownBy w' row) {F : List Nat} (hF : ∀ g, row = some g → g ∈ F) : Fr w w' (· ∈ F) :=
  ⟨h.os, h.tape, h.output, h.size, fun b hb hn => h.block b hb fun e => hn (hF b e.symm)⟩
theorem row_of_rz {w : World} {S : Nat → Prop} {k : Kt} (hk : k.atom = true) {T : TypeId} {F : List Nat} {xs : List k.T} {v : Value} (h : ∃ cs, Shows (.sl T k) v cs ∧ Rz w S (.sl T k) (.ow .sh) F xs cs) :
    F = v.ownBlock.toList ∧ w.ownsRow 0 T 1 v xs.length (xs.map (enc1 k)) := by
  have hsz : k.size = 1 := by cases k <;> first | rfl | cases hk
  obtain ⟨cs, h1, h2⟩ := h
  have h1 : cs = [v] := h1
  subst h1
  rcases h2 with ⟨rfl, rfl, h3⟩ | ⟨g, cap, C, Fe, h3, rfl, h4, h5, h6, h7⟩
  · rw [(List.cons.inj h3).1]
    exact ⟨rfl, by simp, .inl ⟨rfl, rfl⟩⟩
  · rw [(List.cons.inj h3).1]
    have hc := rzl_atom hk h7
    have hFe : Fe = [] := by
      have := h7.free (R' := fun _ _ _ => True) fun F' x c hr => by
        have : F' = [] := by cases k <;> first | exact hr.1 | cases hk
        exact ⟨this, trivial⟩
      exact this.1
    subst hFe
    refine ⟨rfl, by simp, .inr ⟨g, cap, C, rfl, Nat.zero_le _, h4, h6.1, by unfold maxLen; exact h6.2, by rw [h5, hsz], ?_⟩⟩
    rw [hsz] at hc
    exact hc
theorem rz_of_row {w : World} {S : Nat → Prop} {k : Kt} (hk : k.atom = true) {T : TypeId} {xs : List k.T} {v : Value} {base : Nat} (h : w.ownsRow base T 1 v xs.length (xs.map (enc1 k))) :
    ∃ cs, Shows (.sl T k) v cs ∧ Rz w S (.sl T k) (.ow .sh) v.ownBlock.toList xs cs := by
  have hsz : k.size = 1 := by cases k <;> first | rfl | cases hk
  rcases h.2 with ⟨rfl, hx⟩ | ⟨g, cap, cur, rfl, hb, hg, hl, hm, hs, hx⟩
  · exact ⟨_, rfl, .inl ⟨rfl, List.length_eq_zero_iff.1 hx, rfl⟩⟩
  · refine ⟨_, rfl, .inr ⟨g, cap, cur, [], rfl, rfl, hg, by rw [hs, hsz], ⟨hl, by unfold maxLen at hm; omega⟩, ?_⟩⟩
    rw [hsz, hx]
    exact rzl_atom_mk hk xs

/-! ### strings.Builder -/
def intsOf (x : ByteArray) : List Int := x.data.toList.map fun b => (b.toNat : Int)
theorem intsOf_len (x : ByteArray) : (intsOf x).length = x.size := by simp [intsOf]
theorem intsOf_cells (x : ByteArray) : (intsOf x).map (enc1 (.int .u8)) = x.data.toList.map fun b => Value.int .u8 b.toNat := by simp [intsOf, enc1]
theorem intsOf_app (x y : ByteArray) : intsOf (x ++ y) = intsOf x ++ intsOf y := by simp [intsOf, ByteArray.data_append]
theorem buf_rz {w : World} {e : TypeId} {v : Value} {x : ByteArray} {Fb : List Nat} (h : BufAt w e v x Fb) (S : Nat → Prop) : Rz w S (.sl e (.int .u8)) (.ow .sh) Fb (intsOf x) [v] := by
  rcases h with ⟨rfl, h1, rfl⟩ | ⟨g, cap, C, rfl, rfl, h2, h3, h4, h5⟩
  · refine .inl ⟨rfl, ?_, rfl⟩
    exact List.length_eq_zero_iff.1 (by rw [intsOf_len]; exact h1)
  · refine .inr ⟨g, cap, C, [], by rw [intsOf_len], rfl, h2, by rw [h3]; simp [Kt.size], by rw [intsOf_len]; exact h4, ?_⟩
    have : C.toList.take ((intsOf x).length * Kt.size (.int .u8)) = (intsOf x).map (enc1 (.int .u8)) := by
      rw [intsOf_len, intsOf_cells, ← h5]
      simp [Kt.size]
    rw [this]
    exact rzl_atom_mk (k := .int .u8) rfl _
theorem rz_buf {w : World} {S : Nat → Prop} {e : TypeId} {v : Value} {x : ByteArray} {Fb : List Nat} (h : Rz w S (.sl e (.int .u8)) (.ow .sh) Fb (intsOf x) [v]) : BufAt w e v x Fb := by
  rcases h with ⟨rfl, h1, h2⟩ | ⟨g, cap, C, Fe, h1, rfl, h2, h3, h4, h5⟩
  · refine .inl ⟨(List.cons.inj h2).1, ?_, rfl⟩
    have := congrArg List.length h1
    rw [intsOf_len] at this
    exact this
  · have hFe : Fe = [] := by
      have := h5.free (R' := fun _ _ _ => True) fun F' x c hr => ⟨hr.1, trivial⟩
      exact this.1
    subst hFe
    have hc := rzl_atom (k := .int .u8) rfl h5
    rw [intsOf_len] at h1 h4 hc
    refine .inr ⟨g, cap, C, (List.cons.inj h1).1, rfl, h2, by rw [h3]; simp [Kt.size], h4, ?_⟩
    rw [← intsOf_cells, ← hc]
    simp [Kt.size]

/-- append to bytes of one's own, in a walk. -/
theorem wpList_appB {P : Program} {w : World} {ops : Array Oper} {rest : List Oper} {o : Oper} {a : Act} {Q : Exit → Act → World → Prop} (hgd : o.guard = none) (sl x : Operand) (t t2 : TypeId)
    (ho : o.op = .call { callee := .builtin .append, args := #[sl, x], argTypes := #[t, t2] }) (T : TypeId) (i : TypeInfo) (hu : P.underlying t = some (.slice T)) (hi : P.info? T = some i) (hsz : i.size = 1) (hz : i.zero = some (.int .u8 0)) (hby : i.bytes = 1)
    (v : Value) (hsv : a.eval sl = v) {F : List Nat} {xs : ByteArray} (hv : BufAt w T v xs F) (hnd : F.Nodup) (ys : List Int) (hsrc : Src P 1 t2 (a.eval x) ys.length (ys.map (enc1 (.int .u8))) w) (hlen : xs.size + ys.length ≤ 140737488355328)
    (h : ∀ A n c w' F', Fr w w' (· ∈ F) → (∀ b ∈ F', b ∈ F ∨ w.heap.size ≤ b) → F'.Nodup → Rz w' (fun _ => False) (.sl T (.int .u8)) (.ow .sh) F' (intsOf xs ++ ys) [.slice A n c] → wpList P ops Q rest (a.put o.dst (.slice A n c)) w') : wpList P ops Q (o :: rest) a w := by
  refine wpList_plain hgd fun K hK => ?_
  obtain ⟨v', w', F', hr, e1, e2, e3, e4, e5, e6, e7, e8⟩ := run_append (P := P) (Sh := fun _ => False) (e := .int .u8) (m := .sh) (ty := o.type) hu hi hsz hz rfl (buf_rz hv _) hnd (Fn := []) hsrc (rzl_atom_mk (k := .int .u8) rfl ys) (by simpa using hnd) (by rw [intsOf_len, hby]; omega) (by rw [intsOf_len]; omega)
  have hz' := e8 (fun _ => False) ⟨e4, fun b hb => hb.elim⟩ (by simp)
  obtain ⟨A, n, c, rfl⟩ : ∃ A n c, v' = .slice A n c := by
    rcases hz' with ⟨_, _, h3⟩ | ⟨g, cap, C, Fe, h3, _⟩
    · exact ⟨_, _, _, (List.cons.inj h3).1⟩
    · exact ⟨_, _, _, (List.cons.inj h3).1⟩
  subst hsv
  unfold Oper.wp execOp
  simp only [ho, resolve, invoke, builtin, Sem.run_bind, Sem.run_pure, Result.andThen_ok, List.map_toArray, List.map_cons, List.map_nil, hr]
  exact hK _ _ (h A n c w' F' ⟨e1, e2, e3, e4, e5⟩ (fun b hb => (e6 b hb).imp id fun h => h.resolve_left (by simp)) e7 hz')
end Go.Lift

namespace Go.Lift
set_option linter.unusedVariables false
set_option linter.unusedSimpArgs false

/-! ### From outside: a row's arguments, what is laid, what a law's function comes to -/
theorem LaidVars_mem {P : Program} {w : World} : ∀ {l : List (String × DataW Unit)} {ps : List MemPlace}, DataW.LaidVars P w l ps → ∀ n d, (n, d) ∈ l →
    ∃ g t cs fuel p, P.globalNamed n = some g ∧ (P.globals[g]?).map (·.type) = some t ∧ w.var? P n = some cs ∧ DataW.trod (fun _ => ()) P w 0 (fun _ => true) false fuel t cs.toList = some (d, p)
  | [], _, _, _, _, hm => by cases hm
  | (n', d') :: r, ps, h, n, d, hm => by
    obtain ⟨g, t, cs, fuel, p, q, h1, h2, h3, h4, h5, _⟩ := h
    rcases List.mem_cons.1 hm with e | e
    · cases e
      exact ⟨g, t, cs, fuel, p, h1, h2, h3, h4⟩
    · exact LaidVars_mem h5 n d e
theorem plainMet {P : Program} {l : List (String × DataW Unit)} {w : World} (hp : (l.all fun x => x.2.handleName?.isNone) = true) (h : laidMetH P l w) : laidMet P l w := by
  have hn : (l.filter fun x => x.2.handleName?.isSome) = [] := by
    rw [List.filter_eq_nil_iff]
    intro x hx
    have := List.all_eq_true.1 hp x hx
    cases hh : x.2.handleName? <;> simp_all
  unfold laidMetH at h
  rw [hn] at h
  exact h
/-- A laid table. -/
theorem tabIs_mem {P : Program} {W : World} {l : List (String × DataW Unit)} {name : String} {k : IntKind} {zs : List Int} {g : Nat} {t e : TypeId} {n : Nat}
    (hp : (l.all fun x => x.2.handleName?.isNone) = true) (h : laidMetH P l W) (hx : (name, Lib.tabData k zs) ∈ l)
    (hg : P.globalNamed name = some g) (hty : (P.globals[g]?).map (·.type) = some t) (ht : P.underlying t = some (.array n e)) (he : P.underlying e = some (.int k)) (hce : P.cellsOf e = 1) (hct : P.cellsOf t = n) : Lib.TabIs P W name k zs := by
  obtain ⟨ps, hlv, _⟩ := plainMet hp h
  obtain ⟨g', t', cs, fuel, p, hg', ht', hvar, hd⟩ := LaidVars_mem hlv _ _ hx
  obtain rfl := Option.some.inj (hg.symm.trans hg')
  obtain rfl := Option.some.inj (hty.symm.trans ht')
  unfold Lib.TabIs
  rw [hvar, ← Lib.cells_of_tab ht he hce hct hd]

/-- An argument. -/
theorem open_arg {H : Type} {enc : TypeId × Value → H} {P : Program} {W : World} {base b0 : Nat} {spare : Nat → Bool} {held : Bool} {r : Reach} {t : TypeId} {n : Nat} {k : Kt} (hk : tyK P n t k = true) {v : Value} {d : DataW H} {ps : List MemPlace}
    (ho : Value.okWide P W r b0 t v) (h : DataW.Trod enc P W base spare held t v d ps) (hw : ∀ x ∈ d.weights P t, x ≤ reachBytes) : ∃ x : k.T, (∃ cs, Shows k v cs ∧ Rz W (Old W) k .sh [] x cs) ∧ okD P k x ∧ ∀ (B : DataW H → Nat) (BA : List (DataW H) → Nat), BulkLaw B BA → bulkD k x ≤ B d := by
  obtain ⟨cs, h1, h2⟩ := shows_of_ok (base := b0) hk ho
  obtain ⟨fuel, h⟩ := h
  rw [h1] at h
  obtain ⟨x, h3, h4⟩ := open_k n t k hk fuel cs d ps h hw
  exact ⟨x, ⟨cs, h2, h3⟩, h4⟩

def TabOk (P : Program) (Gl : World → Prop) (tab : List (FuncId × Spec)) : Prop := ∀ f sp, (f, sp) ∈ tab → FnOk P Gl f sp
theorem tab_nil {P : Program} {Gl : World → Prop} : TabOk P Gl [] := fun f sp h => by cases h
theorem tab_cons {P : Program} {Gl : World → Prop} {f : FuncId} {sp : Spec} {tab : List (FuncId × Spec)} (h : FnOk P Gl f sp) (ht : TabOk P Gl tab) : TabOk P Gl ((f, sp) :: tab) := by
  intro g sp' hg
  rcases List.mem_cons.1 hg with e | hg
  · obtain ⟨rfl, rfl⟩ := Prod.mk.inj e; exact h
  · exact ht g sp' hg

/-- **A law's function that answers true.** -/
theorem law_calls {P : Program} {Gl : World → Prop} {f : FuncId} {ps : List (Kt × PM)} {den : Nat → HL (ps.map (·.1)) → Option (Sig.Out ⟨ps, [(.bool, .val)]⟩)} (hok : FnOk P Gl f ⟨⟨ps, [(.bool, .val)]⟩, den⟩) (hm : allVal ps = true)
    {W : World} (hG : ∀ w', RowKit.Below W.heap.size W w' → Gl w') {d : HL (ps.map (·.1))} {vs : List Value} (ha : ArgsR W (Old W) ps d vs []) {k : Nat} {r : Sig.Out ⟨ps, [(.bool, .val)]⟩} (hden : den k d = some r) (hr : r.1.1 = true) :
    Calls P f vs.toArray W fun e w' => e = .returned (.bool true) ∧ RowKit.Below W.heap.size W w' := by
  refine (hok k d _ hden W (Old W) vs [] (fun w' hw => hG w' (below_of_fr hw)) ha List.nodup_nil (by simp)).mono fun e w' ⟨us, Fr', Fm, h1, h2, _, _, h5, _⟩ => ?_
  obtain ⟨v, vs', rfl, h6, h7⟩ := h5
  obtain ⟨rfl, _⟩ := h7
  obtain rfl := val_bool h6
  rw [hr] at h1
  exact ⟨h1, below_of_fr h2⟩
end Go.Lift

