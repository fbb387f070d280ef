/-
  THE LIFT (LiftC): a checked way from the model's code to plain functions: what a function is compiled to, it is.
-/
import Derived.Test.YtledeaknnihlmaaLiftB
import Derived.MapKept
import Derived.Orders
import Derived.Scope
import Derived.Deep.LoopGhost
import Derived.ChangeArms
import Derived.OpenShut
import Derived.ChangeShapes
import Derived.Laws.AppendOwn
import Derived.Shelf.Strings.Builder1
import Derived.Lib.OwnBridge
import Derived.Lib.LaidTab
namespace Go.Lift
open Go.MapKept
set_option linter.unusedVariables false
set_option linter.unusedSimpArgs false

/-! ### cap: a number known from below -/
section
variable {E : Type} {P : Program} {o : Oper} {s : Lst E} {gs : Gs}
def c_cap (P : Program) (s : Lst E) (gs : Gs) (t : TypeId) (x : Operand) : Option (OR E) := if isSlice P t then match s.op gs x with
  | some (.val (.win (.sl _ _)) z) => some ⟨none, [(0, .atl fun e => ((List.length (z e).1 : Nat) : Int))], [], 0⟩
  | some (.val (.sl _ _) z) => some ⟨none, [(0, .atl fun e => ((List.length (z e) : Nat) : Int))], [], 0⟩
  | _ => none
  else none
theorem snd_cap {t : TypeId} {x : Operand} {r : OR E} (ho : o.op = .call { callee := .builtin .cap, args := #[x], argTypes := #[t] }) (h : c_cap P s gs t x = some r) : Snd P o s gs r := by
  unfold c_cap at h
  have mx : x ∈ o.op.operands := by simp [ho, Op.operands, Call.operands]
  split at h <;> try (cases h; done)
  rename_i ht
  obtain ⟨T', hu⟩ := isSlice_spec ht
  have run : ∀ {a : Act} {w : World} {A : Option Addr} {n c : Nat}, a.eval x = .slice A n c → (execOp a.eval o).run P w = .ok (.value (.int .i64 c)) w := by
    intro a w A n c h1
    simp only [execOp, ho, resolve, Sem.run_bind, invoke, builtin]
    simp [h1, Builtin.cap_, run_underlying hu, goInt]
  split at h <;> try (cases h; done)
  · rename_i T k z hx
    obtain rfl := Option.some.inj h
    refine Snd.value fun cx e g a w V Fp h1 hok hA hp => ?_
    obtain ⟨cs, c1, c2⟩ := Lst.op_esat hp hA h1 mx hx
    have c1 := (shows_na rfl).1 c1
    obtain ⟨_, A, n, cap, c3, hn, hz⟩ := c2.resolve_left fun h => by cases h.1
    obtain ⟨A', cap', c4, hcap, _⟩ := (hz.2.resolve_left fun h => by cases h.1).2
    obtain ⟨rfl, hn', rfl⟩ := Value.slice.inj (List.cons.inj c4).1
    rw [c3] at c1
    refine ⟨_, run (List.cons.inj c1).1.symm, (cap : Int), rfl, ?_⟩
    exact Int.ofNat_le.2 hcap.1
  · rename_i T k z hx
    obtain rfl := Option.some.inj h
    refine Snd.value fun cx e g a w V Fp h1 hok hA hp => ?_
    obtain ⟨A, cap, c3, hcap, _⟩ := (Lst.op_esat hp hA h1 mx hx).sl
    exact ⟨_, run c3, (cap : Int), rfl, Int.ofNat_le.2 hcap.1⟩
/-- What a number known from below decides. -/
def atlF (op : BinOp) : Option ((Int → Int → Bool) × Bool) := match op with
  | .leq => some (fun a b => decide (a > b), false)
  | .lss => some (fun a b => decide (a ≥ b), false)
  | .gtr => some (fun a b => decide (a > b), true)
  | .geq => some (fun a b => decide (a ≥ b), true)
  | _ => none
def c_binA (s : Lst E) (gs : Gs) (op : BinOp) (x y : Operand) : Option (OR E) := match s.op gs x, s.op gs y, atlF op with
  | some (.atl a), some (.val (.int .i64) b), some (f, r) => some (cValIf (fun e => f (a e) (b e)) (.val .bool fun _ => r))
  | _, _, _ => none
theorem snd_binA {op : BinOp} {t t' : TypeId} {x y : Operand} {r : OR E} (ho : o.op = .binOp op t x y t') (h : c_binA s gs op x y = some r) : Snd P o s gs r := by
  unfold c_binA at h
  have mx : x ∈ o.op.operands := by simp [ho, Op.operands]
  have my : y ∈ o.op.operands := by simp [ho, Op.operands]
  split at h <;> try (cases h; done)
  rename_i a b f rr hx hy hf
  obtain rfl := Option.some.inj h
  refine Snd.value fun cx e g ac w V Fp h1 hok hA hp => ?_
  have hok : f (a e) (b e) = true := hok
  obtain ⟨n, hv, hn⟩ := Lst.op_esat hp hA h1 mx hx
  have hb := (Lst.op_esat hp hA h1 my hy).int
  have key : ∀ {g' : Int → Int → Bool}, cmpF op = some g' → g' n (b e) = rr → ∃ v, (execOp ac.eval o).run P w = .ok (.value v) w ∧ ESat cx g.rt V Fp w (Ent.ev e (.val .bool fun _ => rr)) v := by
    intro g' h2 h3
    refine ⟨.bool rr, ?_, esat_bool _⟩
    simp [execOp, ho, hv, hb, eqGuard_int, run_cmp h2, h3]
  unfold atlF at hf
  split at hf <;> try (cases hf; done)
  all_goals
    obtain ⟨rfl, rfl⟩ := Prod.mk.inj (Option.some.inj hf)
    have hok : _ := of_decide_eq_true hok
    refine key rfl ?_
    first
    | exact decide_eq_false (by omega)
    | exact decide_eq_true (by omega)
end

/-! ### maps -/
def scEq : (k : Kt) → k.T → k.T → Bool
  | .int _, a, b => (a : Int) == b
  | .bool, a, b => (a : Bool) == b
  | .str, a, b => (a : ByteArray) == b
  | _, _, _ => false
/-- The first place of a key. -/
def mfind (a b : Kt) (k : a.T) : List (a.T × b.T) → Option (Nat × b.T)
  | [] => none
  | q :: l => if scEq a k q.1 = true then some (0, q.2) else (mfind a b k l).map fun q => (q.1 + 1, q.2)
def mget (a b : Kt) (k : a.T) (x : Option (List (a.T × b.T))) : Option b.T := match x with
  | some l => (mfind a b k l).map (·.2)
  | none => none
def mput (a b : Kt) (k : a.T) (v : b.T) (l : List (a.T × b.T)) : List (a.T × b.T) := match mfind a b k l with
  | some q => l.set q.1 (k, v)
  | none => l ++ [(k, v)]
def mdel (a b : Kt) (k : a.T) (l : List (a.T × b.T)) : List (a.T × b.T) := match mfind a b k l with
  | some q => l.eraseIdx q.1
  | none => l
/-- A key's kind is its type's. -/
def keyOk (P : Program) (t : TypeId) (a : Kt) : Bool := match P.underlying t, a with
  | some (.int k), .int k' => k == k'
  | some .bool, .bool => true
  | some .string, .str => true
  | _, _ => false
theorem keyOk_spec {P : Program} {t : TypeId} {a : Kt} (h : keyOk P t a = true) : ∃ d, P.underlying t = some d ∧ (∀ k : a.T, IsKey d (scV a k)) ∧ ∀ k q : a.T, Instr.sameNow d (scV a k) (scV a q) = some (scEq a k q) := by
  unfold keyOk at h
  split at h <;> try (cases h; done)
  · rename_i k k' hu
    obtain rfl : k = k' := by simpa using h
    exact ⟨_, hu, fun _ => rfl, fun x y => by simp [Instr.sameNow, scV, scEq]⟩
  · rename_i hu
    exact ⟨_, hu, fun _ => trivial, fun x y => by simp [Instr.sameNow, scV, scEq]⟩
  · rename_i hu
    exact ⟨_, hu, fun _ => trivial, fun x y => by simp [Instr.sameNow, scV, scEq]⟩
theorem findNow_at {P : Program} {d : TypeDesc} {a b : Kt} (hs : ∀ k q : a.T, Instr.sameNow d (scV a k) (scV a q) = some (scEq a k q)) (k : a.T) : ∀ (l : List (a.T × b.T)) (es : List MapEntry) (i : Nat), es.map (fun e => (e.key, e.val)) = l.map (fun q => (scV a q.1, scV b q.2)) →
    Instr.findNow d (scV a k) es i = some ((mfind a b k l).map fun q => (i + q.1, scV b q.2))
  | [], es, i, h => by
    have : es = [] := by simpa using h
    subst this; rfl
  | q :: l, [], i, h => by simp at h
  | q :: l, e :: es, i, h => by
    simp only [List.map_cons, List.cons.injEq, Prod.mk.injEq] at h
    obtain ⟨⟨h1, h2⟩, h3⟩ := h
    simp only [Instr.findNow, h1, hs, mfind]
    cases hq : scEq a k q.1 with
    | true => simp [h2]
    | false =>
      simp only [Bool.false_eq_true, if_false]
      rw [findNow_at (P := P) hs k l es (i + 1) h3]
      cases mfind a b k l <;> simp; omega
theorem mfind_lt {a b : Kt} {k : a.T} : ∀ {l : List (a.T × b.T)} {q : Nat × b.T}, mfind a b k l = some q → q.1 < l.length
  | [], q, h => by cases h
  | p :: l, q, h => by
    simp only [mfind] at h
    split at h
    · obtain rfl := Option.some.inj h; simp
    · obtain ⟨q', h1, rfl⟩ := Option.map_eq_some_iff.1 h
      have := mfind_lt h1
      simp; omega

section
variable {P : Program} {cx : Cx} {g : G} {a : Act} {w : World} {V : Nat → Value} {Fp : Nat → List Nat} {o : Oper} {Q : Exit → Act → World → Prop}

/-- Blocks of a root are changed, its header stands. -/
theorem Pre.touch (h : Pre cx g a w V Fp) {r : Nat} {R : GRoot} (hr : g.rt r = some (some R)) (how : ∃ m1, R.m = .ow m1) {w' : World} (hos : w'.os = w.os) (htape : w'.tape = w.tape) (hout : w'.output = w.output) (hsz : w.heap.size ≤ w'.heap.size)
    (hfr : ∀ b, b < w.heap.size → b ∉ Fp r → w'.heap[b]? = w.heap[b]?) {x' : R.k.T} (hz : ∀ Sh', Kp w (cx.Sh Fp) w' Sh' → ∃ cs, Shows R.k (V r) cs ∧ Rz w' Sh' R.k R.m (Fp r) x' cs)
    (hsh : ∀ b ∈ Fp r, ∀ C T f, w.heap[b]? = some (.cells C T f) → ∃ C', w'.heap[b]? = some (.cells C' T f)) :
    GSat cx ⟨g.tm, upd g.rt r (some (some ⟨R.k, R.m, R.hv + 1, x'⟩))⟩ a w' := by
  obtain ⟨csr, hsr, hzr⟩ := h.mem.roots r R hr
  have hst : Step cx g.rt (upd g.rt r (some (some ⟨R.k, R.m, R.hv + 1, x'⟩))) V V Fp Fp w w' (fun s => s = r) := by
    refine ⟨hos, htape, hout, hsz, fun b hb hs => hfr b hb (hs r rfl), fun s hs => ⟨upd_ne _ _ hs, rfl, rfl⟩, fun s hs b hb => .inr ⟨s, hs, hb⟩, fun s hs => h.mem.nodup s, fun s s' hs hs' hne => absurd (hs.trans hs'.symm) hne, fun s hs hn => ?_, fun s R' hs hR hK => ?_, fun s hs => ?_⟩
    · subst hs
      rw [upd_same] at hn
      exact absurd rfl (hn _)
    · subst hs
      rw [upd_same] at hR
      obtain rfl := Option.some.inj (Option.some.inj hR)
      exact hz _ hK
    · subst hs
      rw [hr, upd_same]
      refine .inr ⟨R.m, _, _, rfl, rfl, .inr ⟨Nat.lt_succ_self _, how, fun p hp => ?_⟩⟩
      rw [shows_hdr hsr]
      obtain ⟨m1, hm1⟩ := how
      exact adr_shal hp (by rw [hm1]; exact shal_vp hp) hzr hsh
  refine ⟨h.defers, h.size, V, Fp, hst.mem h.mem, fun t i ent he => ?_⟩
  obtain ⟨v, u, h1, h2, h3⟩ := h.ents t i ent he
  exact ⟨v, u, h1, h2, hst.esat h.mem h3⟩

/-- A map's block. -/
theorem heap_setB {w : World} {b : Nat} {o o' : Obj} (hb : w.heap[b]? = some o) : ({ w with heap := w.heap.setIfInBounds b o' } : World).heap[b]? = some o' ∧ ∀ r', r' ≠ b → ({ w with heap := w.heap.setIfInBounds b o' } : World).heap[r']? = w.heap[r']? := heap_set hb

/-- What stands in an owned map's place: its value, and what follows of a change of its block. -/
structure MapIn (cx : Cx) (g : G) (a : Act) (w : World) (V : Nat → Value) (Fp : Nat → List Nat) (r : Nat) (R : GRoot) (ka kb : Kt) (v : Value) (x : Option (List (ka.T × kb.T))) (put : Option (List (ka.T × kb.T)) → R.k.T) : Prop where
  how : ∃ m1, R.m = .ow m1
  none : x = none → v = .map none
  some : ∀ l, x = some l → ∃ b es ck, v = .map (some b) ∧ w.heap[b]? = some (.map es ck) ∧ es.toList.map (fun e => (e.key, e.val)) = l.map (fun q => (scV ka q.1, scV kb q.2)) ∧
    ∀ es' ck' l', es'.toList.map (fun e => (e.key, e.val)) = l'.map (fun q => (scV ka q.1, scV kb q.2)) → GSat cx ⟨g.tm, upd g.rt r (some (some ⟨R.k, R.m, R.hv + 1, put (some l')⟩))⟩ a { w with heap := w.heap.setIfInBounds b (.map es' ck') }

theorem Pre.map_own (h : Pre cx g a w V Fp) {r : Nat} {ka kb : Kt} {m : Mk} {hv : Nat} {x : Option (List (ka.T × kb.T))} {v : Value} (hr : g.rt r = some (some ⟨.map ka kb, .ow m, hv, x⟩)) (hx : ESat cx g.rt V Fp w (.own r) v) : MapIn cx g a w V Fp r ⟨.map ka kb, .ow m, hv, x⟩ ka kb v x id := by
  obtain ⟨R0, h1, h2⟩ := hx
  rw [hr] at h1
  obtain rfl := Option.some.inj h1
  have hvv := h2 (by simp)
  obtain ⟨cs, z1, z2⟩ := h.mem.roots r _ hr
  have z1 := (shows_na rfl).1 z1
  subst z1
  refine ⟨⟨_, rfl⟩, fun hn => ?_, fun l hl => ?_⟩
  · rcases z2 with ⟨_, _, z3⟩ | ⟨g0, es, ck, l, z3, _⟩
    · exact hvv.trans (List.cons.inj z3).1
    · have z3 : x = some l := z3
      rw [hn] at z3; cases z3
  · rcases z2 with ⟨z3, _⟩ | ⟨g0, es, ck, l0, z3, z4, z5, z6, z7⟩
    · have z3 : x = none := z3
      rw [hl] at z3; cases z3
    · have z3 : x = some l0 := z3
      obtain rfl := Option.some.inj (z3.symm.trans hl)
      refine ⟨g0, es, ck, hvv.trans (List.cons.inj z4).1, z6, z7, fun es' ck' l' hl' => ?_⟩
      obtain ⟨s1, s2⟩ := heap_setB (o' := .map es' ck') z6
      refine h.touch (w' := { w with heap := w.heap.setIfInBounds g0 (.map es' ck') }) hr ⟨_, rfl⟩ rfl rfl rfl (by simp) (fun b hb hnb => s2 b fun e => hnb (by rw [e, z5]; exact List.mem_singleton_self _)) (fun Sh' hK => ⟨[V r], (shows_na rfl).2 rfl, ?_⟩) (fun b hb C T f hc => ?_)
      · exact .inr ⟨g0, es', ck', l', rfl, z4, z5, s1, hl'⟩
      · rw [z5] at hb
        obtain rfl := List.mem_singleton.1 hb
        rw [z6] at hc; cases hc

theorem Pre.map_sub (h : Pre cx g a w V Fp) {r : Nat} {R : GRoot} {E : Type} (e : E) {p : Path E} {ka kb : Kt} {m : Mk} {get : E → R.k.T → (Kt.map ka kb).T} {put : E → R.k.T → (Kt.map ka kb).T → R.k.T} {ok : E → R.k.T → Bool} {v : Value}
    (hx : ESat cx g.rt V Fp w (.sub r R.hv (p.at e)) v) (hr : g.rt r = some (some R)) (how : ∃ m1, R.m = .ow m1) (hL : lens R.k R.m p = some ⟨.map ka kb, .ow m, get, put, ok⟩) (hok : ok e R.x = true) : MapIn cx g a w V Fp r R ka kb v (get e R.x) (put e R.x) := by
  obtain ⟨R0, q1, q2⟩ := hx
  rw [hr] at q1
  obtain rfl := Option.some.inj q1
  obtain ⟨b, o', hbF, hadr, hcell⟩ := (q2 R rfl).2 rfl (gok_lens' e hL hok)
  obtain ⟨Fa, Fo, Fb, c, hF, hc, H⟩ := h.hole hr e hL hok
  rcases H with ⟨c1, c2, k1, k2, _⟩ | ⟨b', c1, c2, T', hb, k2, k3, k4⟩
  · rw [k2 none] at hadr; cases hadr
  have := k2 none
  rw [hadr] at this
  obtain ⟨rfl, rfl⟩ := Prod.mk.inj (Option.some.inj this)
  clear this
  have hlc : c.length = 1 := Rz_len _ _ _ _ _ _ _ hc
  obtain ⟨v0, rfl⟩ : ∃ v0, c = [v0] := by
    match c, hlc with
    | [v0], _ => exact ⟨v0, rfl⟩
  have hv0 : v = v0 := by
    rw [cell_of_block k3] at hcell
    simpa using hcell.symm
  subst hv0
  obtain ⟨csr, hsr, hzr⟩ := h.mem.roots r R hr
  refine ⟨how, fun hn => ?_, fun l hl => ?_⟩
  · rcases hc with ⟨_, _, z3⟩ | ⟨g0, es, ck, l, z3, _⟩
    · exact (List.cons.inj z3).1
    · have z3 : get e R.x = some l := z3
      rw [hn] at z3; cases z3
  · rcases hc with ⟨z3, _⟩ | ⟨g0, es, ck, l0, z3, z4, z5, z6, z7⟩
    · have z3 : get e R.x = none := z3
      rw [hl] at z3; cases z3
    · have z3 : get e R.x = some l0 := z3
      obtain rfl := Option.some.inj (z3.symm.trans hl)
      refine ⟨g0, es, ck, (List.cons.inj z4).1, z6, z7, fun es' ck' l' hl' => ?_⟩
      obtain ⟨s1, s2⟩ := heap_setB (o' := .map es' ck') z6
      have hgF : g0 ∈ Fp r := by rw [hF, z5]; simp
      have hnd : (Fa ++ (Fo ++ Fb)).Nodup := hF ▸ h.mem.nodup r
      have n1 := List.nodup_append.1 hnd
      have n2 := List.nodup_append.1 n1.2.1
      have hg1 : ∀ u ∈ Fa ++ Fb, u ≠ g0 := by
        intro u hu e
        subst e
        have : u ∈ Fo := by rw [z5]; exact List.mem_singleton_self _
        rcases List.mem_append.1 hu with hu | hu
        · exact n1.2.2 u hu u (List.mem_append_left _ this) rfl
        · exact n2.2.2 u this u hu rfl
      refine h.touch (w' := { w with heap := w.heap.setIfInBounds g0 (.map es' ck') }) hr how rfl rfl rfl (by simp) (fun u hu hnu => s2 u fun e => hnu (by rw [e]; exact hgF)) (fun Sh' hK => ⟨csr, hsr, ?_⟩) (fun u hu C T f hC => ?_)
      · rw [hF, ← shows_hdr hsr]
        have hbg : b ≠ g0 := hg1 b (List.mem_append_left _ hb)
        exact (k4 _ Sh' (.ow m) R.m Fo (some l') [v] hK (fun u hu _ => s2 u (hg1 u hu)) ((s2 b hbg).trans k3) (MSet_same e (lens_is _ _ _ _ hL)) (.inr ⟨g0, es', ck', l', rfl, z4, z5, s1, hl'⟩)).1
      · by_cases hug : u = g0
        · rw [hug, z6] at hC; cases hC
        · exact ⟨C, (s2 u hug).trans hC⟩
end

section
variable {E : Type} {P : Program} {o : Oper} {s : Lst E} {gs : Gs}

/-- A map's place: its root, data and change. -/
structure MP (E : Type) where
  r : Nat
  R : Root E
  ka : Kt
  kb : Kt
  x : E → Option (List (ka.T × kb.T))
  put : E → Option (List (ka.T × kb.T)) → R.k.T
  chk : Option (E → Bool)
def c_mp (s : Lst E) (gs : Gs) (x : Operand) : Option (MP E) := match s.op gs x with
  | some (.own r) => match s.root gs r with
    | some ⟨.map a b, .ow m, hv, y⟩ => some ⟨r, ⟨.map a b, .ow m, hv, y⟩, a, b, y, fun _ z => z, none⟩
    | _ => none
  | some (.sub r hv p) => match s.root gs r with
    | some R => if R.hv = hv ∧ R.m.isOw = true then match lens R.k R.m p with
      | some ⟨.map a b, .ow m, get, put, ok⟩ => some ⟨r, R, a, b, fun e => get e (R.x e), fun e z => put e (R.x e) z, okChk R p ⟨.map a b, .ow m, get, put, ok⟩⟩
      | _ => none
      else none
    | none => none
  | _ => none
theorem c_mp_spec {x : Operand} {q : MP E} (h : c_mp s gs x = some q) {cx : Cx} {g : G} {a : Act} {w : World} {V : Nat → Value} {Fp : Nat → List Nat} {e : E} {n : Nat} (hp : Pre cx g a w V Fp) (hA : Agree g s e (opTmps o) n) (h1 : s.on gs e = true) (mx : x ∈ o.op.operands) (hok : chkHolds q.chk e = true) :
    g.rt q.r = some (some (q.R.ev e)) ∧ MapIn cx g a w V Fp q.r (q.R.ev e) q.ka q.kb (a.eval x) (q.x e) (q.put e) := by
  unfold c_mp at h
  split at h <;> try (cases h; done)
  · rename_i r hx
    split at h <;> try (cases h; done)
    rename_i ka kb m hv y hR
    obtain rfl := Option.some.inj h
    have hrt : g.rt r = _ := (Lst.op_root hA mx hx (List.mem_singleton_self _)).trans (Lst.root_gr h1 hR)
    exact ⟨hrt, hp.map_own hrt (Lst.op_esat hp hA h1 mx hx)⟩
  · rename_i r hv p hx
    split at h <;> try (cases h; done)
    rename_i R hR
    split at h <;> try (cases h; done)
    rename_i hc
    obtain ⟨rfl, how⟩ := hc
    split at h <;> try (cases h; done)
    rename_i ka kb m get put ok hL
    obtain rfl := Option.some.inj h
    have hrt : g.rt r = some (some (R.ev e)) := (Lst.op_root hA mx hx (List.mem_singleton_self _)).trans (Lst.root_gr h1 hR)
    exact ⟨hrt, hp.map_sub (R := R.ev e) e (Lst.op_esat hp hA h1 mx hx) hrt (how_of how) hL (okChk_holds hL hok)⟩

def zIs : Kt → Value → Bool
  | .int k, .int k' n => k == k' && n == 0
  | .bool, .bool b => !b
  | .str, .string s => s.size == 0
  | _, _ => false
theorem zIs_spec {b : Kt} {z : Value} (h : zIs b z = true) : z = scV b b.dflt := by
  unfold zIs at h
  split at h <;> try (cases h; done)
  · rename_i k k' n
    simp only [Bool.and_eq_true, beq_iff_eq] at h
    rw [h.1, h.2]; rfl
  · rename_i b
    have : b = false := by simpa using h
    rw [this]; rfl
  · rename_i s
    have : s = ByteArray.empty := by
      have h : s.size = 0 := by simpa using h
      exact ByteArray.ext (Array.eq_empty_of_size_eq_zero h)
    rw [this]; rfl
def mapT (P : Program) (t : TypeId) (a b : Kt) : Option TypeId := match P.underlying t with
  | some (.map k e) => if keyOk P k a then (match (P.info? e).bind (·.zero) with
    | some z => if zIs b z && keyOk P e b then some k else none
    | none => none) else none
  | _ => none
theorem mapT_spec {t k : TypeId} {a b : Kt} (h : mapT P t a b = some k) : ∃ e d i, P.underlying t = some (.map k e) ∧ P.underlying k = some d ∧ (∀ x : a.T, IsKey d (scV a x)) ∧ (∀ x y : a.T, Instr.sameNow d (scV a x) (scV a y) = some (scEq a x y)) ∧ P.info? e = some i ∧ i.zero = some (scV b b.dflt) ∧ keyOk P e b = true := by
  unfold mapT at h
  split at h <;> try (cases h; done)
  rename_i k' e hu
  split at h <;> try (cases h; done)
  rename_i hk
  split at h <;> try (cases h; done)
  rename_i z hz
  split at h <;> try (cases h; done)
  rename_i hzz
  obtain rfl := Option.some.inj h
  rw [Bool.and_eq_true] at hzz
  obtain ⟨d, h1, h2, h3⟩ := keyOk_spec hk
  obtain ⟨i, h4, h5⟩ := Option.bind_eq_some_iff.1 hz
  have := zIs_spec hzz.1
  exact ⟨e, d, i, hu, h1, h2, h3, h4, by rw [h5, this], hzz.2⟩
end
end Go.Lift

namespace Go.Lift
set_option linter.unusedVariables false
set_option linter.unusedSimpArgs false

/-! ### Regions: what an operation does to the state at hand, in whatever order -/
structure GD where
  on : Bool
  dst : Option Tmp
  es : Nat → Option GEnt
  off : Nat → Option GEnt
  ru : List (Nat × GR)
  bo : Nat → Option GR → Option GR := fun _ x => x

def G.app (g : G) (δ : GD) : G where
  tm := fun q => if some q.1 = δ.dst then (if δ.on then δ.es q.2 else δ.off q.2) else g.tm q
  rt := fun r => match look r δ.ru with | some q => if δ.on then some q else δ.bo r (g.rt r) | none => g.rt r

/-- What an operation looks at and what it writes. -/
structure Tk where
  tr : List Tmp
  tw : Option Tmp
  rr : List Nat
  rw : List Nat

def Tk.wt (x : Tk) (t : Tmp) : Bool := x.tw == some t
def Tk.wr (x : Tk) (r : Nat) : Bool := x.rw.contains r
def Tk.tt (x : Tk) (t : Tmp) : Bool := x.tr.contains t || x.tw == some t
def Tk.tR (x : Tk) (r : Nat) : Bool := x.rr.contains r || x.rw.contains r
/-- One writes what the other looks at or writes. -/
def cf1 (x y : Tk) : Bool := (match x.tw with | some t => y.tt t | none => false) || x.rw.any y.tR
def cf (x y : Tk) : Bool := cf1 x y || cf1 y x

structure AgreeT (g g' : G) (tk : Tk) : Prop where
  tm : ∀ t ∈ tk.tr, ∀ c, g.tm (t, c) = g'.tm (t, c)
  rt : ∀ r ∈ tk.rr, g.rt r = g'.rt r

def OpLoc (P : Program) (ops : Array Oper) (cx : Cx) (o : Oper) (δ : GD) (tk : Tk) (g0 : G) : Prop :=
  ∀ g, AgreeT g g0 tk → ∀ a w, GSat cx g a w →
    if Region.wanted o (yielded ops a.tmps) = true then ∀ (Q : Exit → Act → World → Prop), o.wp P a w (fun a' w' => GSat cx (g.app δ) a' w') Q else GSat cx (g.app δ) (a.put o.dst undef) w

/-- The operations that have come up, in the order of the text. -/
def gS (g0 : G) (listed : Nat → Bool) : List GD → Nat → G
  | [], _ => g0
  | δ :: l, i => gS (if listed i then g0.app δ else g0) listed l (i + 1)

theorem app_tm {g : G} {δ : GD} {q : Nat × Nat} (h : some q.1 ≠ δ.dst) : (g.app δ).tm q = g.tm q := by simp [G.app, h]
theorem app_rt {g : G} {δ : GD} {r : Nat} (h : look r δ.ru = none) : (g.app δ).rt r = g.rt r := by
  simp only [G.app, h]

theorem gS_tm (q : Nat × Nat) : ∀ (l : List GD) (i : Nat) (g g' : G) (S S' : Nat → Bool), g.tm q = g'.tm q → (∀ j δ, l[j]? = some δ → some q.1 = δ.dst → S (i + j) = S' (i + j)) → (gS g S l i).tm q = (gS g' S' l i).tm q
  | [], _, _, _, _, _, h, _ => h
  | δ :: l, i, g, g', S, S', h, hS => by
    simp only [gS]
    refine gS_tm q l (i + 1) _ _ S S' ?_ fun j δ' hj hd => by
      have := hS (j + 1) δ' (by simpa using hj) hd
      rwa [show i + (j + 1) = i + 1 + j by omega] at this
    by_cases hd : some q.1 = δ.dst
    · have h0 := hS 0 δ rfl hd
      rw [Nat.add_zero] at h0
      rw [h0]
      split
      · simp only [G.app, if_pos hd]
      · exact h
    · split <;> split <;> first | (simp only [app_tm hd]; exact h) | exact h
theorem gS_rt (r : Nat) : ∀ (l : List GD) (i : Nat) (g g' : G) (S S' : Nat → Bool), g.rt r = g'.rt r → (∀ j δ, l[j]? = some δ → look r δ.ru ≠ none → S (i + j) = S' (i + j)) → (gS g S l i).rt r = (gS g' S' l i).rt r
  | [], _, _, _, _, _, h, _ => h
  | δ :: l, i, g, g', S, S', h, hS => by
    simp only [gS]
    refine gS_rt r l (i + 1) _ _ S S' ?_ fun j δ' hj hd => by
      have := hS (j + 1) δ' (by simpa using hj) hd
      rwa [show i + (j + 1) = i + 1 + j by omega] at this
    by_cases hd : look r δ.ru = none
    · split <;> split <;> first | (simp only [app_rt hd]; exact h) | exact h
    · have h0 := hS 0 δ rfl hd
      rw [Nat.add_zero] at h0
      rw [h0]
      split
      · simp only [G.app]
        rw [h]
      · exact h

/-- One more has come up. -/
theorem gS_add_tm {i : Nat} {δ : GD} (q : Nat × Nat) : ∀ (l : List GD) (k : Nat) (g : G) (S : Nat → Bool), l[i]? = some δ → S (k + i) = false → (∀ j δ', l[j]? = some δ' → i < j → S (k + j) = true → some q.1 = δ'.dst → some q.1 = δ.dst → False) →
    (gS g (fun j => S j || j == k + i) l k).tm q = ((gS g S l k).app δ).tm q := by
  induction i with
  | zero =>
    intro l k g S hl hS hw
    cases l with
    | nil => cases hl
    | cons δ' l =>
      obtain rfl := Option.some.inj hl
      simp only [gS, Nat.add_zero] at hS ⊢
      simp only [hS, beq_self_eq_true, Bool.or_true, if_true]
      by_cases hd : some q.1 = δ'.dst
      · have h1 : ((gS (if false = true then g.app δ' else g) S l (k + 1)).app δ').tm q = (g.app δ').tm q := by simp only [G.app, if_pos hd]
        rw [h1]
        have : ∀ (l : List GD) (m : Nat) (g' : G) (S' : Nat → Bool), (∀ j δ'', l[j]? = some δ'' → S' (m + j) = true → some q.1 ≠ δ''.dst) → (gS g' S' l m).tm q = g'.tm q := by
          intro l
          induction l with
          | nil => intro m g' S' _; rfl
          | cons δ0 l ih =>
            intro m g' S' h
            simp only [gS]
            rw [ih (m + 1) _ S' fun j δ'' hj hs => h (j + 1) δ'' (by simpa using hj) (by rwa [show m + (j + 1) = m + 1 + j by omega])]
            split
            · rename_i hs
              exact app_tm (h 0 δ0 rfl (by simpa using hs))
            · rfl
        refine this l (k + 1) _ _ fun j δ'' hj hs hd' => ?_
        have e : (k + 1 + j == k) = false := by
          have : ¬ (k + 1 + j = k) := by omega
          simpa using this
        rw [e, Bool.or_false] at hs
        exact hw (j + 1) δ'' (by simpa using hj) (by omega) (by rwa [show k + (j + 1) = k + 1 + j by omega]) hd' hd
      · rw [app_tm hd]
        refine gS_tm q l (k + 1) _ _ _ _ ?_ fun j δ'' hj hd' => ?_
        · rw [app_tm hd]; rfl
        · have e : (k + 1 + j == k) = false := by
            have : ¬ (k + 1 + j = k) := by omega
            simpa using this
          rw [e, Bool.or_false]
  | succ i ih =>
    intro l k g S hl hS hw
    cases l with
    | nil => cases hl
    | cons δ' l =>
      simp only [gS]
      have e : (k == k + (i + 1)) = false := by
        have : ¬ (k = k + (i + 1)) := by omega
        exact beq_eq_false_iff_ne.2 this
      simp only [e, Bool.or_false]
      have := ih l (k + 1) (if S k = true then g.app δ' else g) S (by simpa using hl) (by rwa [show k + 1 + i = k + (i + 1) by omega]) fun j δ'' hj hlt hs => hw (j + 1) δ'' (by simpa using hj) (by omega) (by rwa [show k + (j + 1) = k + 1 + j by omega])
      rw [show k + 1 + i = k + (i + 1) by omega] at this
      exact this
theorem gS_add_rt {i : Nat} {δ : GD} (r : Nat) : ∀ (l : List GD) (k : Nat) (g : G) (S : Nat → Bool), l[i]? = some δ → S (k + i) = false → (∀ j δ', l[j]? = some δ' → i < j → S (k + j) = true → look r δ'.ru ≠ none → look r δ.ru ≠ none → False) →
    (gS g (fun j => S j || j == k + i) l k).rt r = ((gS g S l k).app δ).rt r := by
  induction i with
  | zero =>
    intro l k g S hl hS hw
    cases l with
    | nil => cases hl
    | cons δ' l =>
      obtain rfl := Option.some.inj hl
      simp only [gS, Nat.add_zero] at hS ⊢
      simp only [hS, beq_self_eq_true, Bool.or_true, if_true]
      by_cases hd : look r δ'.ru = none
      · rw [app_rt hd]
        refine gS_rt r l (k + 1) _ _ _ _ ?_ fun j δ'' hj hd' => ?_
        · rw [app_rt hd]; rfl
        · have e : (k + 1 + j == k) = false := by
            have : ¬ (k + 1 + j = k) := by omega
            simpa using this
          rw [e, Bool.or_false]
      · have : ∀ (l : List GD) (m : Nat) (g' : G) (S' : Nat → Bool), (∀ j δ'', l[j]? = some δ'' → S' (m + j) = true → look r δ''.ru = none) → (gS g' S' l m).rt r = g'.rt r := by
          intro l
          induction l with
          | nil => intro m g' S' _; rfl
          | cons δ0 l ih =>
            intro m g' S' h
            simp only [gS]
            rw [ih (m + 1) _ S' fun j δ'' hj hs => h (j + 1) δ'' (by simpa using hj) (by rwa [show m + (j + 1) = m + 1 + j by omega])]
            split
            · rename_i hs
              exact app_rt (h 0 δ0 rfl (by simpa using hs))
            · rfl
        have none_later : ∀ j δ'', l[j]? = some δ'' → S (k + 1 + j) = true → look r δ''.ru = none := fun j δ'' hj hs => by
          cases hl : look r δ''.ru with
          | none => rfl
          | some x => exact (hw (j + 1) δ'' (by simpa using hj) (by omega) (by rwa [show k + (j + 1) = k + 1 + j by omega]) (by rw [hl]; simp) hd).elim
        rw [this l (k + 1) _ _ fun j δ'' hj hs => ?_]
        · simp only [G.app]
          rw [this l (k + 1) _ _ none_later]
          rfl
        · have e : (k + 1 + j == k) = false := by
            have : ¬ (k + 1 + j = k) := by omega
            simpa using this
          rw [e, Bool.or_false] at hs
          exact none_later j δ'' hj hs
  | succ i ih =>
    intro l k g S hl hS hw
    cases l with
    | nil => cases hl
    | cons δ' l =>
      simp only [gS]
      have e : (k == k + (i + 1)) = false := by
        have : ¬ (k = k + (i + 1)) := by omega
        exact beq_eq_false_iff_ne.2 this
      simp only [e, Bool.or_false]
      have := ih l (k + 1) (if S k = true then g.app δ' else g) S (by simpa using hl) (by rwa [show k + 1 + i = k + (i + 1) by omega]) fun j δ'' hj hlt hs => hw (j + 1) δ'' (by simpa using hj) (by omega) (by rwa [show k + (j + 1) = k + 1 + j by omega])
      rw [show k + 1 + i = k + (i + 1) by omega] at this
      exact this
end Go.Lift

namespace Go.Lift
set_option linter.unusedVariables false
set_option linter.unusedSimpArgs false

/-! ### Which operation waits for which -/
def onB (o : Oper) (i : Nat) : Bool := o.after.toList.any fun e => Region.binds .any e && e.on == i
/-- The operations ahead of one, as bits. -/
def bmask (acc : List Nat) (o : Oper) : Nat := o.after.toList.foldl (fun s e => if Region.binds .any e then s ||| 2 ^ e.on ||| acc.getD e.on 0 else s) 0
def befs : List Oper → List Nat → List Nat
  | [], acc => acc
  | o :: l, acc => befs l (acc ++ [bmask acc o])

theorem testBit_two_pow' (n i : Nat) (h : (2 ^ n).testBit i = true) : i = n := by
  rw [Nat.testBit_two_pow] at h
  have : n = i := by simpa using h
  exact this.symm

theorem bmask_spec {acc : List Nat} {o : Oper} {i : Nat} (h : (bmask acc o).testBit i = true) : ∃ e ∈ o.after, Region.binds .any e = true ∧ (e.on = i ∨ (acc.getD e.on 0).testBit i = true) := by
  unfold bmask at h
  have : ∀ (l : List Edge) (s : Nat), (l.foldl (fun s e => if Region.binds .any e then s ||| 2 ^ e.on ||| acc.getD e.on 0 else s) s).testBit i = true →
      s.testBit i = true ∨ ∃ e ∈ l, Region.binds .any e = true ∧ (e.on = i ∨ (acc.getD e.on 0).testBit i = true) := by
    intro l
    induction l with
    | nil => intro s h; exact .inl h
    | cons e l ih =>
      intro s h
      rw [List.foldl_cons] at h
      rcases ih _ h with h1 | ⟨e', h1, h2⟩
      · split at h1
        · rename_i hb
          rw [Nat.testBit_or, Nat.testBit_or, Bool.or_eq_true, Bool.or_eq_true] at h1
          rcases h1 with (h1 | h1) | h1
          · exact .inl h1
          · exact .inr ⟨e, List.mem_cons_self .., hb, .inl (testBit_two_pow' _ _ h1).symm⟩
          · exact .inr ⟨e, List.mem_cons_self .., hb, .inr h1⟩
        · exact .inl h1
      · exact .inr ⟨e', List.mem_cons_of_mem _ h1, h2⟩
  rcases this _ _ h with h1 | ⟨e, h1, h2⟩
  · simp at h1
  · exact ⟨e, Array.mem_toList_iff.1 h1, h2⟩

/-- Each bit of the table leads over an edge. -/
theorem befs_spec : ∀ (l : List Oper) (acc : List Nat) (pre : List Oper), acc.length = pre.length →
    (∀ j o i, pre[j]? = some o → (acc.getD j 0).testBit i = true → ∃ e ∈ o.after, Region.binds .any e = true ∧ (e.on = i ∨ (e.on < j ∧ (acc.getD e.on 0).testBit i = true))) →
    ∀ j o i, (pre ++ l)[j]? = some o → ((befs l acc).getD j 0).testBit i = true → ∃ e ∈ o.after, Region.binds .any e = true ∧ (e.on = i ∨ (e.on < j ∧ ((befs l acc).getD e.on 0).testBit i = true))
  | [], acc, pre, hl, h => by
    intro j o i hj hb
    rw [List.append_nil] at hj
    exact h j o i hj hb
  | o0 :: l, acc, pre, hl, h => by
    have := befs_spec l (acc ++ [bmask acc o0]) (pre ++ [o0]) (by simp [hl]) (fun j o i hj hb => by
      by_cases hlt : j < pre.length
      · rw [List.getElem?_append_left hlt] at hj
        have e1 : (acc ++ [bmask acc o0]).getD j 0 = acc.getD j 0 := by
          simp only [List.getD_eq_getElem?_getD]
          rw [List.getElem?_append_left (by omega)]
        rw [e1] at hb
        obtain ⟨e, h1, h2, h3⟩ := h j o i hj hb
        refine ⟨e, h1, h2, h3.imp id fun ⟨h4, h5⟩ => ⟨h4, ?_⟩⟩
        have e2 : (acc ++ [bmask acc o0]).getD e.on 0 = acc.getD e.on 0 := by
          simp only [List.getD_eq_getElem?_getD]
          rw [List.getElem?_append_left (by omega)]
        rw [e2]; exact h5
      · have hj' : j = pre.length := by
          rcases Nat.lt_or_ge j (pre ++ [o0]).length with h' | h'
          · simp at h'; omega
          · rw [List.getElem?_eq_none h'] at hj; cases hj
        subst hj'
        rw [List.getElem?_append_right (Nat.le_refl _), Nat.sub_self] at hj
        obtain rfl := Option.some.inj hj
        have e1 : (acc ++ [bmask acc o0]).getD pre.length 0 = bmask acc o0 := by
          simp only [List.getD_eq_getElem?_getD]
          rw [List.getElem?_append_right (by omega)]
          simp [hl]
        rw [e1] at hb
        obtain ⟨e, h1, h2, h3⟩ := bmask_spec hb
        refine ⟨e, h1, h2, h3.imp id fun h4 => ?_⟩
        have hlt' : e.on < acc.length := by
          rcases Nat.lt_or_ge e.on acc.length with h' | h'
          · exact h'
          · rw [List.getD_eq_getElem?_getD, List.getElem?_eq_none h'] at h4; simp at h4
        refine ⟨by omega, ?_⟩
        have e2 : (acc ++ [bmask acc o0]).getD e.on 0 = acc.getD e.on 0 := by
          simp only [List.getD_eq_getElem?_getD]
          rw [List.getElem?_append_left hlt']
        rw [e2]; exact h4)
    intro j o i hj hb
    have := this j o i (by simpa using hj) hb
    exact this

/-- Edges of what has come up have come up. -/
def EC (ops : Array Oper) (listed : Array Bool) : Prop := ∀ j o, ops[j]? = some o → listed.getD j false = true → ∀ e ∈ o.after, Region.binds .any e = true → listed.getD e.on false = true

theorem ec_bef {ops : Array Oper} {listed : Array Bool} (hE : EC ops listed) : ∀ (n j : Nat), j ≤ n → ∀ o i, ops[j]? = some o → (∀ e ∈ o.after, Region.binds .any e = true → listed.getD e.on false = true) → ((befs ops.toList []).getD j 0).testBit i = true → listed.getD i false = true := by
  have hall := befs_spec ops.toList [] [] rfl (by intro j o i hj; cases hj)
  intro n
  induction n with
  | zero =>
    intro j hj o i ho hed hb
    obtain ⟨e, h1, h2, h3⟩ := hall j o i (by simpa using ho) hb
    rcases h3 with h3 | ⟨h3, _⟩
    · rw [← h3]; exact hed e h1 h2
    · omega
  | succ n ih =>
    intro j hj o i ho hed hb
    obtain ⟨e, h1, h2, h3⟩ := hall j o i (by simpa using ho) hb
    rcases h3 with h3 | ⟨h3, h4⟩
    · rw [← h3]; exact hed e h1 h2
    · have hl := hed e h1 h2
      have hlt : j < ops.size := (Array.getElem?_eq_some_iff.1 ho).1
      have : ops[e.on]? = some ops[e.on] := Array.getElem?_eq_getElem (by omega)
      exact ih e.on (by omega) _ i this (hE e.on _ this hl) h4

/-- The static check: edges lead back; whatever conflicts is ordered. -/
def edgesBack (ops : List Oper) : Bool := go ops 0
where go : List Oper → Nat → Bool
  | [], _ => true
  | o :: l, i => o.after.toList.all (fun e => !Region.binds .any e || decide (e.on < i)) && go l (i + 1)
def ordChk : List Tk → Nat → Nat → Tk → Bool
  | [], _, _, _ => true
  | x :: l, i, b, y => (!cf x y || b.testBit i) && ordChk l (i + 1) b y
def ordGo : List Tk → List Nat → List Tk → Bool
  | [], _, _ => true
  | y :: l, bs, pre => ordChk pre 0 (bs.headD 0) y && ordGo l bs.tail (pre ++ [y])
def ordOk (bs : List Nat) (tks : List Tk) : Bool := ordGo tks bs []

theorem edgesBack_spec : ∀ {l : List Oper} {i : Nat}, edgesBack.go l i = true → ∀ j o, l[j]? = some o → ∀ e ∈ o.after, Region.binds .any e = true → e.on < i + j
  | [], i, h, j, o, hj => by cases hj
  | o :: l, i, h, j, o', hj => by
    simp only [edgesBack.go, Bool.and_eq_true] at h
    cases j with
    | zero =>
      obtain rfl := Option.some.inj hj
      intro e he hb
      have := List.all_eq_true.1 h.1 e (Array.mem_toList_iff.2 he)
      rw [hb] at this
      simpa using this
    | succ j =>
      intro e he hb
      have := edgesBack_spec h.2 j o' (by simpa using hj) e he hb
      omega
theorem ordChk_spec : ∀ {l : List Tk} {k b : Nat} {y : Tk}, ordChk l k b y = true → ∀ i x, l[i]? = some x → cf x y = true → b.testBit (k + i) = true
  | [], k, b, y, h, i, x, hx => by cases hx
  | x :: l, k, b, y, h, i, x', hx => by
    simp only [ordChk, Bool.and_eq_true, Bool.or_eq_true, Bool.not_eq_true'] at h
    cases i with
    | zero =>
      obtain rfl := Option.some.inj hx
      intro hc
      exact h.1.resolve_left (by rw [hc]; simp)
    | succ i =>
      intro hc
      have := ordChk_spec h.2 i x' (by simpa using hx) hc
      rwa [show k + (i + 1) = k + 1 + i by omega]
theorem ordOk_spec : ∀ {l : List Tk} {bs : List Nat} {pre : List Tk}, ordGo l bs pre = true → ∀ j y, l[j]? = some y → ∀ i x, i < pre.length + j → (pre ++ l)[i]? = some x → cf x y = true → (bs.getD j 0).testBit i = true
  | [], bs, pre, h, j, y, hj => by cases hj
  | y0 :: l, bs, pre, h, j, y, hj => by
    simp only [ordGo, Bool.and_eq_true] at h
    intro i x hi hx hc
    cases j with
    | zero =>
      obtain rfl := Option.some.inj hj
      rw [List.getElem?_append_left (by omega)] at hx
      have := ordChk_spec h.1 i x hx hc
      rw [Nat.zero_add] at this
      cases bs with
      | nil => simp at this
      | cons _ _ => simpa using this
    | succ j =>
      have := ordOk_spec h.2 j y (by simpa using hj) i x (by simp; omega) (by simpa using hx) hc
      cases bs with
      | nil => simp at this
      | cons _ _ => simpa using this

theorem cf_of {x y : Tk} : (∀ t, x.wt t = true → y.tt t = true → cf x y = true) ∧ (∀ r, x.wr r = true → y.tR r = true → cf x y = true) ∧ (∀ t, y.wt t = true → x.tt t = true → cf x y = true) ∧ (∀ r, y.wr r = true → x.tR r = true → cf x y = true) := by
  have h1 : ∀ (x y : Tk) t, x.wt t = true → y.tt t = true → cf1 x y = true := by
    intro x y t h h'
    unfold Tk.wt at h
    unfold cf1
    have : x.tw = some t := eq_of_beq h
    rw [this]
    simp [h']
  have h2 : ∀ (x y : Tk) r, x.wr r = true → y.tR r = true → cf1 x y = true := by
    intro x y r h h'
    unfold Tk.wr at h
    unfold cf1
    rw [Bool.or_eq_true]
    right
    rw [List.any_eq_true]
    exact ⟨r, by simpa using h, h'⟩
  unfold cf
  exact ⟨fun t a b => by rw [h1 x y t a b]; rfl, fun t a b => by rw [h2 x y t a b]; rfl, fun t a b => by rw [h1 y x t a b, Bool.or_true], fun t a b => by rw [h2 y x t a b, Bool.or_true]⟩

/-- All of a region: each operation's doing, what it touches; the states in the order of the text. -/
structure Plan (P : Program) (ops : Array Oper) (cx : Cx) (g0 : G) (ds : List GD) (tks : List Tk) : Prop where
  len : ds.length = ops.size
  tlen : tks.length = ops.size
  loc : ∀ (i : Nat) (o : Oper) (δ : GD) (tk : Tk), ops[i]? = some o → ds[i]? = some δ → tks[i]? = some tk → OpLoc P ops cx o δ tk (gS g0 (fun j => decide (j < i)) ds 0)
  dst : ∀ (i : Nat) (δ : GD) (tk : Tk), ds[i]? = some δ → tks[i]? = some tk → tk.tw = δ.dst ∧ ∀ r, look r δ.ru ≠ none → tk.wr r = true
  back : edgesBack ops.toList = true
  ord : ordOk (befs ops.toList []) tks = true

theorem getD_lt {l : Array Bool} {i : Nat} (h : l.getD i false = true) : i < l.size := by
  rcases Nat.lt_or_ge i l.size with h' | h'
  · exact h'
  · simp [Array.getD, Nat.not_lt.2 h'] at h

theorem plan_any {P : Program} {ops : Array Oper} {cx : Cx} {g0 : G} {ds : List GD} {tks : List Tk} (hp : Plan P ops cx g0 ds tks) {Q : Exit → Act → World → Prop} (hQ : ∀ a w, GSat cx (gS g0 (fun _ => true) ds 0) a w → Q .normal a w) :
    ∀ (fuel : Nat) (listed : Array Bool) (a : Act) (w : World), listed.size = ops.size → EC ops listed → ops.size ≤ fuel + (listed.toList.filter id).length → GSat cx (gS g0 (fun j => listed.getD j false) ds 0) a w → wpAny P .any ops Q fuel listed a w := by
  have fin : ∀ listed : Array Bool, listed.size = ops.size → EC ops listed → Region.ready .any ops listed = [] → ∀ j, j < ops.size → listed.getD j false = true := by
    intro listed hsz hE hr j
    induction j using Nat.strongRecOn with
    | _ j ih =>
      intro hj
      cases hl : listed.getD j false with
      | true => rfl
      | false =>
        have : j ∈ Region.ready .any ops listed := mem_ready.2 ⟨by simp [Array.getD, show j < listed.size by omega] at hl ⊢; exact hl, ops[j], Array.getElem?_eq_getElem hj, fun e he hb => by
          have := edgesBack_spec hp.back j ops[j] (by simp [hj]) e he hb
          exact ih e.on (by omega) (by omega)⟩
        rw [hr] at this; cases this
  have done_ : ∀ (listed : Array Bool) (a : Act) (w : World), listed.size = ops.size → EC ops listed → Region.ready .any ops listed = [] → GSat cx (gS g0 (fun j => listed.getD j false) ds 0) a w → Q .normal a w := by
    intro listed a w hsz hE hr hg
    refine hQ a w ?_
    have hall := fin listed hsz hE hr
    have : gS g0 (fun j => listed.getD j false) ds 0 = gS g0 (fun _ => true) ds 0 := by
      have e1 : ∀ q, (gS g0 (fun j => listed.getD j false) ds 0).tm q = (gS g0 (fun _ => true) ds 0).tm q := fun q => gS_tm q ds 0 g0 g0 _ _ rfl fun j δ hj _ => by
        rw [Nat.zero_add]
        exact hall j (by rw [← hp.len]; exact (List.getElem?_eq_some_iff.1 hj).1)
      have e2 : ∀ r, (gS g0 (fun j => listed.getD j false) ds 0).rt r = (gS g0 (fun _ => true) ds 0).rt r := fun r => gS_rt r ds 0 g0 g0 _ _ rfl fun j δ hj _ => by
        rw [Nat.zero_add]
        exact hall j (by rw [← hp.len]; exact (List.getElem?_eq_some_iff.1 hj).1)
      cases h1 : gS g0 (fun j => listed.getD j false) ds 0
      cases h2 : gS g0 (fun _ => true) ds 0
      rw [h1, h2] at e1 e2
      congr
      · exact funext e1
      · exact funext e2
    rw [← this]; exact hg
  intro fuel
  induction fuel with
  | zero =>
    intro listed a w hsz hE hf hg
    have hr : Region.ready .any ops listed = [] := by
      have hlen : (listed.toList.filter id).length = listed.toList.length := Nat.le_antisymm (List.length_filter_le ..) (by rw [Array.length_toList]; omega)
      rw [List.length_filter_eq_length_iff] at hlen
      apply List.eq_nil_iff_forall_not_mem.2
      intro j hj
      obtain ⟨h0, o, ho, _⟩ := mem_ready.1 hj
      have hlt : j < listed.size := by rw [hsz]; exact (Array.getElem?_eq_some_iff.1 ho).1
      have := hlen (listed[j]) (by simp)
      simp [Array.getD, hlt] at h0 this
      rw [h0] at this; cases this
    exact ⟨hr, done_ listed a w hsz hE hr hg⟩
  | succ fuel ih =>
    intro listed a w hsz hE hf hg
    refine ⟨fun hr => done_ listed a w hsz hE hr hg, fun i hi => ?_⟩
    obtain ⟨h0, o, ho, hed⟩ := mem_ready.1 hi
    have hlt : i < ops.size := (Array.getElem?_eq_some_iff.1 ho).1
    have hli : listed.getD i false = false := by simp [Array.getD, show i < listed.size by omega] at h0 ⊢; exact h0
    obtain ⟨δ, hδ⟩ : ∃ δ, ds[i]? = some δ := ⟨_, List.getElem?_eq_getElem (by rw [hp.len]; exact hlt)⟩
    obtain ⟨tk, htk⟩ : ∃ tk, tks[i]? = some tk := ⟨_, List.getElem?_eq_getElem (by rw [hp.tlen]; exact hlt)⟩
    have tkOf : ∀ j δ', ds[j]? = some δ' → ∃ tk', tks[j]? = some tk' := fun j δ' hj => ⟨_, List.getElem?_eq_getElem (by rw [hp.tlen, ← hp.len]; exact (List.getElem?_eq_some_iff.1 hj).1)⟩
    -- what conflicts has come up just if it stands ahead
    have key : ∀ j δ' tk', ds[j]? = some δ' → tks[j]? = some tk' → (cf tk' tk = true ∨ cf tk tk' = true) → j ≠ i → listed.getD j false = decide (j < i) := by
      intro j δ' tk' hj htj hc hne
      have hjlt : j < ops.size := by rw [← hp.len]; exact (List.getElem?_eq_some_iff.1 hj).1
      have hcs : cf tk' tk = cf tk tk' := by unfold cf; rw [Bool.or_comm]
      rcases Nat.lt_or_gt_of_ne hne with hlt' | hgt
      · have hb := ordOk_spec hp.ord i tk htk j tk' (by simpa using hlt') (by simpa using htj) (by rcases hc with hc | hc; exact hc; rw [hcs]; exact hc)
        have := ec_bef hE i i (Nat.le_refl _) o j ho hed hb
        rw [this]; simp [hlt']
      · have hb := ordOk_spec hp.ord j tk' htj i tk (by simpa using hgt) (by simpa using htk) (by rcases hc with hc | hc; rw [← hcs]; exact hc; exact hc)
        have : listed.getD j false = false := by
          cases hl : listed.getD j false with
          | false => rfl
          | true =>
            have hoj : ops[j]? = some ops[j] := Array.getElem?_eq_getElem hjlt
            have := ec_bef hE j j (Nat.le_refl _) _ i hoj (hE j _ hoj hl) hb
            rw [hli] at this; cases this
        rw [this]
        have : ¬ j < i := by omega
        simp [this]
    have hcf := fun (x y : Tk) => @cf_of x y
    have hag : AgreeT (gS g0 (fun j => listed.getD j false) ds 0) (gS g0 (fun j => decide (j < i)) ds 0) tk := by
      refine ⟨fun t ht c => gS_tm (t, c) ds 0 g0 g0 _ _ rfl fun j δ' hj hd => ?_, fun r hr => gS_rt r ds 0 g0 g0 _ _ rfl fun j δ' hj hd => ?_⟩
      · rw [Nat.zero_add]
        by_cases hne : j = i
        · subst hne; rw [hli]; simp
        · obtain ⟨tk', htj⟩ := tkOf j δ' hj
          refine key j δ' tk' hj htj (.inl ((hcf tk' tk).1 t ?_ ?_)) hne
          · unfold Tk.wt; rw [(hp.dst j δ' tk' hj htj).1, ← hd]; simp
          · unfold Tk.tt; simp [ht]
      · rw [Nat.zero_add]
        by_cases hne : j = i
        · subst hne; rw [hli]; simp
        · obtain ⟨tk', htj⟩ := tkOf j δ' hj
          refine key j δ' tk' hj htj (.inl ((hcf tk' tk).2.1 r ((hp.dst j δ' tk' hj htj).2 r hd) ?_)) hne
          unfold Tk.tR; simp [hr]
    -- the next state
    have hnext : gS g0 (fun j => (listed.setIfInBounds i true).getD j false) ds 0 = (gS g0 (fun j => listed.getD j false) ds 0).app δ := by
      have e0 : (fun j => (listed.setIfInBounds i true).getD j false) = fun j => listed.getD j false || j == 0 + i := by
        funext j
        by_cases hji : j = i
        · subst hji
          simp [Array.getD, show j < listed.size by omega]
        · rw [getD_set_ne false (Ne.symm hji)]
          simp [hji]
      rw [e0]
      have e1 : ∀ q, (gS g0 (fun j => listed.getD j false || j == 0 + i) ds 0).tm q = ((gS g0 (fun j => listed.getD j false) ds 0).app δ).tm q := fun q => gS_add_tm q ds 0 g0 (fun j => listed.getD j false) hδ (by simpa using hli) fun j δ' hj hgt hs hd hd' => by
        obtain ⟨tk', htj⟩ := tkOf j δ' hj
        have := key j δ' tk' hj htj (.inr ((hcf tk tk').1 q.1 (by unfold Tk.wt; rw [(hp.dst i δ tk hδ htk).1, ← hd']; simp) (by unfold Tk.tt; rw [(hp.dst j δ' tk' hj htj).1, ← hd]; simp))) (by omega)
        rw [Nat.zero_add] at hs
        rw [hs] at this
        simp at this
        omega
      have e2 : ∀ r, (gS g0 (fun j => listed.getD j false || j == 0 + i) ds 0).rt r = ((gS g0 (fun j => listed.getD j false) ds 0).app δ).rt r := fun r => gS_add_rt r ds 0 g0 (fun j => listed.getD j false) hδ (by simpa using hli) fun j δ' hj hgt hs hd hd' => by
        obtain ⟨tk', htj⟩ := tkOf j δ' hj
        have := key j δ' tk' hj htj (.inr ((hcf tk tk').2.1 r ((hp.dst i δ tk hδ htk).2 r hd') (by unfold Tk.tR; rw [Bool.or_eq_true]; right; exact (hp.dst j δ' tk' hj htj).2 r hd))) (by omega)
        rw [Nat.zero_add] at hs
        rw [hs] at this
        simp at this
        omega
      cases h1 : gS g0 (fun j => listed.getD j false || j == 0 + i) ds 0
      cases h2 : (gS g0 (fun j => listed.getD j false) ds 0).app δ
      rw [h1, h2] at e1 e2
      congr
      · exact funext e1
      · exact funext e2
    have hstep := hp.loc i o δ tk ho hδ htk _ hag a w hg
    have hEC' : EC ops (listed.setIfInBounds i true) := by
      intro j oj hj hlj e he hb
      by_cases hji : j = i
      · subst hji
        rw [ho] at hj
        obtain rfl := Option.some.inj hj
        exact getD_set_true (hed e he hb)
      · rw [getD_set_ne false (Ne.symm hji)] at hlj
        exact getD_set_true (hE j oj hj hlj e he hb)
    have hcount : ops.size ≤ fuel + ((listed.setIfInBounds i true).toList.filter id).length := by
      have : ((listed.setIfInBounds i true).toList.filter id).length = (listed.toList.filter id).length + 1 := by
        rw [Array.toList_setIfInBounds]
        have hi' : i < listed.toList.length := by rw [Array.length_toList]; omega
        have hv : listed.toList[i] = false := by simp [Array.getD, show i < listed.size by omega] at h0 ⊢; exact h0
        rw [List.set_eq_take_append_cons_drop, if_pos hi', List.filter_append, List.length_append]
        conv => rhs; rw [← List.take_append_drop i listed.toList, List.filter_append, List.length_append, List.drop_eq_getElem_cons hi', hv]
        simp
        omega
      omega
    unfold wpOp
    simp only [ho]
    split
    · rename_i hw
      rw [if_pos hw] at hstep
      refine .inl (Oper.wp_mono (fun a' w' h => ?_) (hstep Q))
      refine ih (listed.setIfInBounds i true) a' w' (by simp [hsz]) hEC' hcount ?_
      rw [hnext]; exact h
    · rename_i hw
      rw [if_neg hw] at hstep
      refine ih (listed.setIfInBounds i true) _ w (by simp [hsz]) hEC' hcount ?_
      rw [hnext]; exact hstep
end Go.Lift

namespace Go.Lift
set_option linter.unusedVariables false
set_option linter.unusedSimpArgs false

/-- What is known: the callees, and the kinds of types for which another kind than the plain one is wanted. -/
structure Tab where
  fs : List (FuncId × Spec)
  ks : List (TypeId × Kt) := []
instance : Coe (List (FuncId × Spec)) Tab := ⟨fun l => ⟨l, []⟩⟩
/-- The kind of a type. -/
def kindOf (P : Program) (ks : List (TypeId × Kt)) : Nat → TypeId → Option Kt
  | 0, _ => none
  | n + 1, t => match look t ks with
    | some k => some k
    | none => match P.underlying t with
      | some (.int k) => some (.int k)
      | some .bool => some .bool
      | some .string => some .str
      | some (.slice e) => (kindOf P ks n e).map (.sl e)
      | some (.array m e) => (kindOf P ks n e).map (.arr m)
      | some (.pointer e) => match bldOf P e with
        | some b => some (.bld e b)
        | none => (kindOf P ks n e).map (.ptr e)
      | some (.interface _) => some .unk
      | some (.struct fs) => fs.toList.foldr (fun f acc => match kindOf P ks n f.type, acc with | some k, some a => some (.pair k a) | _, _ => none) (some .unit)
      | _ => none

inductive Stp (E : Type) : Type 1
  | pure (r : OR E)
  | call (r : OC E)

section
variable {E : Type}

def elK (P : Program) (ks : List (TypeId × Kt)) (t : TypeId) : Option (TypeId × Kt) := match P.underlying t with
  | some (.slice e) => (kindOf P ks 12 e).map fun k => (e, k)
  | _ => none

/-- What an operation yields is handed to calls, and to nothing else. -/
def onlyArgs (ops : Array Oper) (o : Oper) : Bool := match o.dst with
  | some t => ops.toList.all (fun o' => if o'.op.operands.toList.any (fun | .tmp t' => t' == t | _ => false) then (match o'.op with | .call ⟨.value (.func _), _, _⟩ => true | _ => false) else true)
  | none => false
/-- Of a type windows are wanted. -/
def winT (P : Program) (ks : List (TypeId × Kt)) (t : TypeId) : Bool := match kindOf P ks 12 t with
  | some (.win _) => true
  | _ => false
def wn (b : Bool) (r : OR E) : OR E := if b then asWin r else r
theorem snd_wn {P : Program} {o : Oper} {s : Lst E} {gs : Gs} {b : Bool} {r : OR E} (h : Snd P o s gs r) : Snd P o s gs (wn b r) := by
  unfold wn
  split
  · exact snd_asWin h
  · exact h
def c_appW (P : Program) (b : Bool) (s : Lst E) (gs : Gs) (t t2 : TypeId) (x y : Operand) (kn : Option (TypeId × Kt)) : Option (OR E) :=
  (withT x gs (withW x gs fun s => c_app2 P s gs t t2 x y kn) s).map (wn b)
theorem snd_appW {P : Program} {o : Oper} {s : Lst E} {gs : Gs} {b : Bool} {t t2 : TypeId} {x y : Operand} {kn : Option (TypeId × Kt)} {r : OR E} (ho : o.op = .call { callee := .builtin .append, args := #[x, y], argTypes := #[t, t2] }) (h : c_appW P b s gs t t2 x y kn = some r) : Snd P o s gs r := by
  unfold c_appW at h
  obtain ⟨q, hq, rfl⟩ := Option.map_eq_some_iff.1 h
  have mx : x ∈ o.op.operands := by simp [ho, Op.operands, Call.operands]
  exact snd_wn (snd_withT (fun s r hr => snd_withW (fun s r hr => snd_app2 ho hr) mx hr) mx hq)
def c_len2 (P : Program) (s : Lst E) (gs : Gs) (t : TypeId) (x : Operand) : Option (OR E) := match c_len P s gs t x with
  | some r => some r
  | none => c_lenW P s gs t x
theorem snd_len2 {P : Program} {o : Oper} {s : Lst E} {gs : Gs} {t : TypeId} {x : Operand} {r : OR E} (ho : o.op = .call { callee := .builtin .len, args := #[x], argTypes := #[t] }) (h : c_len2 P s gs t x = some r) : Snd P o s gs r := by
  unfold c_len2 at h
  split at h
  · rename_i q hq
    obtain rfl := Option.some.inj h
    exact snd_len ho hq
  · exact snd_lenW ho h
def c_index2 (P : Program) (s : Lst E) (gs : Gs) (t : TypeId) (x y : Operand) : Option (OR E) := match c_index P s gs t x y with
  | some r => some r
  | none => c_indexW P s gs t x y
theorem snd_index2 {P : Program} {o : Oper} {s : Lst E} {gs : Gs} {t : TypeId} {x y : Operand} {r : OR E} (ho : o.op = .indexAddr t x y) (h : c_index2 P s gs t x y = some r) : Snd P o s gs r := by
  unfold c_index2 at h
  split at h
  · rename_i q hq
    obtain rfl := Option.some.inj h
    exact snd_index ho hq
  · exact snd_indexW ho h
def c_bin4 (P : Program) (s : Lst E) (gs : Gs) (op : BinOp) (t : TypeId) (k : Option Kt) (x y : Operand) : Option (OR E) := match c_bin3 P s gs op t k x y with
  | some r => some r
  | none => c_binA s gs op x y
theorem snd_bin4 {P : Program} {o : Oper} {s : Lst E} {gs : Gs} {op : BinOp} {t t' : TypeId} {k : Option Kt} {x y : Operand} {r : OR E} (ho : o.op = .binOp op t x y t') (h : c_bin4 P s gs op t k x y = some r) : Snd P o s gs r := by
  unfold c_bin4 at h
  split at h
  · rename_i q hq
    obtain rfl := Option.some.inj h
    exact snd_bin3 ho hq
  · exact snd_binA ho h
def c_cut (P : Program) (b : Bool) (s : Lst E) (gs : Gs) (t : TypeId) (x : Operand) (lo hi : Option Operand) : Option (OR E) := match b, lo, hi with
  | true, none, some hi => c_sliceW P s gs t x hi
  | _, lo, hi => c_slice P s gs t x lo hi
theorem snd_cut {P : Program} {o : Oper} {s : Lst E} {gs : Gs} {b : Bool} {t : TypeId} {x : Operand} {lo hi : Option Operand} {r : OR E} (ho : o.op = .slice t x lo hi none) (h : c_cut P b s gs t x lo hi = some r) : Snd P o s gs r := by
  unfold c_cut at h
  split at h
  · exact snd_sliceW ho h
  · exact snd_slice ho h
def c_op (P : Program) (tab : Tab) (vw : Bool) (s : Lst E) (gs : Gs) (o : Oper) : Option (Stp E) := match o.op with
  | .move x => (c_mv s gs x).map .pure
  | .assign x => (c_mv s gs x).map .pure
  | .pick c a b => (c_pick s gs c a b).map .pure
  | .alloc T => match bldOf P T with
    | some e => (c_allocB P s T e).map .pure
    | none => (kindOf P tab.ks 12 T).bind fun k => (c_alloc P s T k).map .pure
  | .nilCheck x => (c_nil P s gs x).map .pure
  | .makeFunc (.func f) ⟨[]⟩ ⟨xs⟩ => (c_mkfn s gs f xs).map .pure
  | .box T x => (c_box2 s gs T x).map .pure
  | .buildSlice t n parts => (elK P tab.ks t).bind fun k => (c_bsl P s gs t n parts k.2).map .pure
  | .build t parts => (kindOf P tab.ks 12 t).bind fun k => (c_build2 P s gs t k parts).map .pure
  | .load t x => (c_ld P s gs vw t x).map .pure
  | .store t x y => match o.dst with | none => (c_store P s gs t x y).map .pure | some _ => none
  | .binOp op t x y _ => (c_bin4 P s gs op t (kindOf P tab.ks 12 t) x y).map .pure
  | .unOp op _ x => (c_un s gs op x).map .pure
  | .convert a b x => (c_conv P s gs a b x).map .pure
  | .makeSlice t l c => (elK P tab.ks t).bind fun k => (c_makeSlice P s gs t l c k.2).map fun r => .pure (wn (winT P tab.ks t) r)
  | .makeInterface T x => (c_mkI P s gs T x).map .pure
  | .slice t x none none none => (match c_sliceA P s gs t x with | some r => some r | none => c_slice P s gs t x none none).map .pure
  | .slice t x lo hi none => (c_cut P (winT P tab.ks t) s gs t x lo hi).map .pure
  | .slice t x none (some hi) (some mx) => (c_slice3 P s gs t x hi mx).map .pure
  | .fieldAddr t x i => (c_field P s gs t x i).map .pure
  | .indexAddr t x y => (c_index2 P s gs t x y).map .pure
  | .index t x y => (c_at P s gs t x y).map .pure
  | .extract x i => (c_extract s gs x i).map .pure
  | .call ⟨.builtin .len, ⟨[x]⟩, ⟨[t]⟩⟩ => (c_len2 P s gs t x).map .pure
  | .call ⟨.builtin .cap, ⟨[x]⟩, ⟨[t]⟩⟩ => (c_cap P s gs t x).map .pure
  | .call ⟨.builtin .append, ⟨[x, y]⟩, ⟨[t, t2]⟩⟩ => (c_appW P (winT P tab.ks t) s gs t t2 x y (elK P tab.ks t)).map .pure
  | .call ⟨.builtin .max, ⟨xs⟩, _⟩ => (c_mm s gs .max xs).map .pure
  | .call ⟨.builtin .min, ⟨xs⟩, _⟩ => (c_mm s gs .min xs).map .pure
  | .call ⟨.value (.func f), ⟨xs⟩, _⟩ => (c_call P tab.fs s gs f xs).map .call
  | .call ⟨.value (.tmp t), ⟨xs⟩, _⟩ => (c_callW P tab.fs s gs t xs).map .call
  | _ => none

theorem map_pure {α : Type} {x : Option (OR E)} {r : Stp E} (h : x.map Stp.pure = some r) : ∃ q, x = some q ∧ r = .pure q := by
  cases x with
  | none => cases h
  | some q => exact ⟨q, rfl, (Option.some.inj h).symm⟩

def StpOk (P : Program) (Gl : World → Prop) (o : Oper) (s : Lst E) (gs : Gs) : Stp E → Prop
  | .pure r => Snd P o s gs r
  | .call r => SndC P Gl o s gs r

theorem c_op_ok {P : Program} {Gl : World → Prop} {tab : Tab} (htab : ∀ f sp, (f, sp) ∈ tab.fs → FnOk P Gl f sp) {vw : Bool} {s : Lst E} {gs : Gs} {o : Oper} {r : Stp E} (h : c_op P tab vw s gs o = some r) : StpOk P Gl o s gs r := by
  unfold c_op at h
  split at h
  · rename_i ho
    obtain ⟨q, hq, rfl⟩ := Option.map_eq_some_iff.1 h
    exact snd_mv (.inl ho) hq
  · rename_i ho
    obtain ⟨q, hq, rfl⟩ := Option.map_eq_some_iff.1 h
    exact snd_mv (.inr ho) hq
  · rename_i ho
    obtain ⟨q, hq, rfl⟩ := Option.map_eq_some_iff.1 h
    exact snd_pick ho hq
  · rename_i ho
    split at h
    · obtain ⟨q, hq, rfl⟩ := Option.map_eq_some_iff.1 h
      exact snd_allocB ho hq
    · obtain ⟨k, hk, h⟩ := Option.bind_eq_some_iff.1 h
      obtain ⟨q, hq, rfl⟩ := Option.map_eq_some_iff.1 h
      exact snd_alloc ho hq
  · rename_i ho
    obtain ⟨q, hq, rfl⟩ := Option.map_eq_some_iff.1 h
    exact snd_nil ho hq
  · rename_i ho
    obtain ⟨q, hq, rfl⟩ := Option.map_eq_some_iff.1 h
    exact snd_mkfn ho hq
  · rename_i ho
    obtain ⟨q, hq, rfl⟩ := Option.map_eq_some_iff.1 h
    exact snd_box2 ho hq
  · rename_i ho
    obtain ⟨k, hk, h⟩ := Option.bind_eq_some_iff.1 h
    obtain ⟨q, hq, rfl⟩ := Option.map_eq_some_iff.1 h
    exact snd_bsl ho hq
  · rename_i ho
    obtain ⟨k, hk, h⟩ := Option.bind_eq_some_iff.1 h
    obtain ⟨q, hq, rfl⟩ := Option.map_eq_some_iff.1 h
    exact snd_build2 ho hq
  · rename_i ho
    obtain ⟨q, hq, rfl⟩ := Option.map_eq_some_iff.1 h
    exact snd_ld ho hq
  · rename_i ho
    split at h
    · rename_i hd
      obtain ⟨q, hq, rfl⟩ := Option.map_eq_some_iff.1 h
      exact snd_store ho hd hq
    · cases h
  · rename_i ho
    obtain ⟨q, hq, rfl⟩ := Option.map_eq_some_iff.1 h
    exact snd_bin4 ho hq
  · rename_i ho
    obtain ⟨q, hq, rfl⟩ := Option.map_eq_some_iff.1 h
    exact snd_un ho hq
  · rename_i ho
    obtain ⟨q, hq, rfl⟩ := Option.map_eq_some_iff.1 h
    exact snd_conv ho hq
  · rename_i ho
    obtain ⟨k, hk, h⟩ := Option.bind_eq_some_iff.1 h
    obtain ⟨q, hq, rfl⟩ := Option.map_eq_some_iff.1 h
    exact snd_wn (snd_makeSlice ho hq)
  · rename_i ho
    obtain ⟨q, hq, rfl⟩ := Option.map_eq_some_iff.1 h
    exact snd_mkI ho hq
  · rename_i ho
    obtain ⟨q, hq, rfl⟩ := Option.map_eq_some_iff.1 h
    split at hq
    · rename_i r hr
      obtain rfl := Option.some.inj hq
      exact snd_sliceA ho hr
    · exact snd_slice ho hq
  · rename_i ho
    obtain ⟨q, hq, rfl⟩ := Option.map_eq_some_iff.1 h
    exact snd_cut ho hq
  · rename_i ho
    obtain ⟨q, hq, rfl⟩ := Option.map_eq_some_iff.1 h
    exact snd_slice3 ho hq
  · rename_i ho
    obtain ⟨q, hq, rfl⟩ := Option.map_eq_some_iff.1 h
    exact snd_field ho hq
  · rename_i ho
    obtain ⟨q, hq, rfl⟩ := Option.map_eq_some_iff.1 h
    exact snd_index2 ho hq
  · rename_i ho
    obtain ⟨q, hq, rfl⟩ := Option.map_eq_some_iff.1 h
    exact snd_at ho hq
  · rename_i ho
    obtain ⟨q, hq, rfl⟩ := Option.map_eq_some_iff.1 h
    exact snd_extract ho hq
  · rename_i ho
    obtain ⟨q, hq, rfl⟩ := Option.map_eq_some_iff.1 h
    exact snd_len2 ho hq
  · rename_i ho
    obtain ⟨q, hq, rfl⟩ := Option.map_eq_some_iff.1 h
    exact snd_cap ho hq
  · rename_i ho
    obtain ⟨q, hq, rfl⟩ := Option.map_eq_some_iff.1 h
    exact snd_appW ho hq
  · rename_i ho
    obtain ⟨q, hq, rfl⟩ := Option.map_eq_some_iff.1 h
    exact snd_mm ho hq
  · rename_i ho
    obtain ⟨q, hq, rfl⟩ := Option.map_eq_some_iff.1 h
    exact snd_mm ho hq
  · rename_i ho
    obtain ⟨q, hq, rfl⟩ := Option.map_eq_some_iff.1 h
    exact snd_call htab ho hq
  · rename_i ho
    obtain ⟨q, hq, rfl⟩ := Option.map_eq_some_iff.1 h
    exact snd_callW htab ho hq
  · cases h

theorem c_op_mv {P : Program} {tab : Tab} {vw : Bool} {s : Lst E} {gs : Gs} {o : Oper} {r : OR E} (hm : isMv o = true) (h : c_op P tab vw s gs o = some (.pure r)) : ∃ x, (o.op = .move x ∨ o.op = .assign x) ∧ c_mv s gs x = some r := by
  unfold isMv at hm
  split at hm <;> try (cases hm; done)
  · rename_i x hx
    unfold c_op at h
    rw [hx] at h
    obtain ⟨q, hq, h2⟩ := Option.map_eq_some_iff.1 h
    obtain rfl := Stp.pure.inj h2
    exact ⟨x, .inl hx, hq⟩
  · rename_i x hx
    unfold c_op at h
    rw [hx] at h
    obtain ⟨q, hq, h2⟩ := Option.map_eq_some_iff.1 h
    obtain rfl := Stp.pure.inj h2
    exact ⟨x, .inr hx, hq⟩

/-! ### The state behind an operation -/
def Lst.pull {E' : Type} (f : E' → E) (s : Lst E) : Lst E' := ⟨s.tm.map fun q => (q.1, ⟨q.2.gs, q.2.ent.pull f⟩), s.rt.map fun q => (q.1, (q.2.1, q.2.2.map (Root.pull f))), s.nx⟩

theorem look_map {α β γ : Type} [DecidableEq α] (k : α) (f : β → γ) : ∀ l : List (α × β), look k (l.map fun q => (q.1, f q.2)) = (look k l).map f
  | [] => rfl
  | (k', v) :: l => by
    simp only [List.map_cons, look]
    split
    · rfl
    · exact look_map k f l
theorem look_mapK {α β γ : Type} [DecidableEq α] (k : α) (f : α → β → γ) : ∀ l : List (α × β), look k (l.map fun q => (q.1, f q.1 q.2)) = (look k l).map (f k)
  | [] => rfl
  | (k', v) :: l => by
    simp only [List.map_cons, look]
    split
    · rename_i h; subst h; rfl
    · exact look_mapK k f l
theorem look_append {α β : Type} [DecidableEq α] (k : α) : ∀ l l' : List (α × β), look k (l ++ l') = match look k l with | some v => some v | none => look k l'
  | [], l' => rfl
  | (k', v) :: l, l' => by
    simp only [List.cons_append, look]
    split
    · rfl
    · exact look_append k l l'

theorem gval_pull {E' : Type} (f : E' → E) (s : Lst E) (t : Tmp) : (s.pull f).gval t = (s.gval t).map fun x e => x (f e) := by
  unfold Lst.gval Lst.pull
  simp only []
  rw [look_map (t, 0) (fun sl : Slot E => (⟨sl.gs, sl.ent.pull f⟩ : Slot E'))]
  cases look (t, 0) s.tm with
  | none => rfl
  | some sl =>
    obtain ⟨gs, en⟩ := sl
    cases en with
    | val k x => cases k <;> rfl
    | _ => rfl
theorem on_pull {E' : Type} (f : E' → E) (s : Lst E) (gs : Gs) (e : E') : (s.pull f).on gs e = s.on gs (f e) := by
  unfold Lst.on
  congr 1
  funext q
  rw [gval_pull]
  cases s.gval q.1 <;> rfl
theorem gr_pull {E' : Type} (f : E' → E) (s : Lst E) (e : E') : (s.pull f).gr e = s.gr (f e) := by
  unfold Lst.gr
  congr 1
  · funext q
    show (match look q (s.pull f).tm with | some sl => _ | none => _) = _
    unfold Lst.pull
    simp only []
    rw [look_map q (fun sl : Slot E => (⟨sl.gs, sl.ent.pull f⟩ : Slot E'))]
    cases look q s.tm with
    | none => rfl
    | some sl =>
      simp only [Option.map_some]
      rw [Ent.ev_pull]
      have := on_pull f s sl.gs e
      unfold Lst.pull at this
      rw [this]
  · funext r
    show (match look r (s.pull f).rt with | some sl => _ | none => _) = _
    unfold Lst.pull
    simp only []
    rw [look_map r (fun q : Gs × Option (Root E) => (q.1, q.2.map (Root.pull f)))]
    cases look r s.rt with
    | none => rfl
    | some q =>
      simp only [Option.map_some]
      have := on_pull f s q.1 e
      unfold Lst.pull at this
      rw [this]
      split
      · rw [Option.map_map]; rfl
      · rfl

/-- No guard hangs on this slot. -/
def gsFree (d : Option Tmp) (gs : Gs) : Bool := gs.all fun q => !(d == some q.1)
def Lst.free (s : Lst E) (d : Option Tmp) : Bool := s.tm.all (fun q => gsFree d q.2.gs) && s.rt.all fun q => gsFree d q.2.1
/-- A root that is changed under guards: as it was, where they are off. -/
def mergeR (s : Lst E) (gs : Gs) (q : Nat) (R : Option (Root E)) : Gs × Option (Root E) := match gs, look q s.rt, R with
  | g :: l, some ([], some Ro), some R => if h : Ro.k = R.k then ([], some ⟨R.k, R.m, R.hv, fun e => if s.on (g :: l) e then R.x e else h ▸ Ro.x e⟩) else (g :: l, some R)
  | gs, _, R => (gs, R)
def mergeB (s : Lst E) (q : Nat) (R : Option (Root E)) : Bool := match look q s.rt, R with
  | none, _ => true
  | some ([], some Ro), some R => decide (Ro.k = R.k) && decide (Ro.m = R.m) && decide (R.hv = Ro.hv + 1) && R.m.isOw
  | _, _ => false
def Lst.next (s : Lst E) (gs : Gs) (d : Option Tmp) (es : List (Nat × Ent E)) (ru : List (Nat × Option (Root E))) (n : Nat) : Lst E :=
  ⟨(match d with | some d => es.map fun q => ((d, q.1), ⟨gs, q.2⟩) | none => []) ++ s.tm.filter (fun q => !(d == some q.1.1)), ru.map (fun q => (q.1, mergeR s gs q.1 q.2)) ++ s.rt, s.nx + n⟩
/-- What must be so of a step. -/
def Lst.stepOk (s : Lst E) (gs : Gs) (d : Option Tmp) (ru : List (Nat × Option (Root E))) (n : Nat) (nt : Nat × Nat) : Bool :=
  s.free d && gsFree d gs && (gs.isEmpty || ru.all fun q => mergeB s q.1 q.2) && (List.range n).all (fun i => (look (s.nx + i) s.rt).isNone) && (match d with | some t => decide (nt.1 ≤ t) && decide (t < nt.2) | none => true)

def offOf (es : List (Nat × Ent E)) : Nat → Option GEnt := fun i => if i = 0 ∧ (look 0 es).isSome = true then some (.cst undef) else none
def raise : Option GR → Option GR := Option.map (Option.map fun R => ⟨R.k, R.m, R.hv + 1, R.x⟩)
def boOf (s : Lst E) (r : Nat) (x : Option GR) : Option GR := if (look r s.rt).isSome then raise x else x
def gdOf (s : Lst E) (gs : Gs) (d : Option Tmp) (es : List (Nat × Ent E)) (ru : List (Nat × Option (Root E))) (e : E) : GD := ⟨s.on gs e, d, evs es e, offOf es, ru.map fun q => (q.1, q.2.map (Root.ev e)), boOf s⟩

theorem look_filter {α β : Type} [DecidableEq α] (k : α) (p : α → Bool) : ∀ l : List (α × β), look k (l.filter fun q => p q.1) = if p k then look k l else none
  | [] => by simp [look]
  | (k', v) :: l => by
    rw [List.filter_cons]
    by_cases hk : k = k'
    · subst hk
      cases hp : p k with
      | true => simp [look]
      | false =>
        have := look_filter k p l
        rw [hp] at this
        simpa [look] using this
    · cases hp : p k' with
      | true => simp only [if_true, look, if_neg hk]; exact look_filter k p l
      | false =>
        simp only [look, if_neg hk]
        exact look_filter k p l

theorem next_gval {s : Lst E} {gs : Gs} {d : Option Tmp} {es : List (Nat × Ent E)} {ru : List (Nat × Option (Root E))} {n : Nat} {t : Tmp} (h : ¬ d = some t) : (s.next gs d es ru n).gval t = s.gval t := by
  unfold Lst.gval Lst.next
  simp only []
  rw [look_append]
  have h1 : look (t, 0) (match d with | some d => es.map fun q => ((d, q.1), (⟨gs, q.2⟩ : Slot E)) | none => []) = none := by
    cases d with
    | none => rfl
    | some d =>
      have hne : ¬ t = d := fun e => h (by rw [e])
      show look (t, 0) (es.map fun q => ((d, q.1), (⟨gs, q.2⟩ : Slot E))) = none
      induction es with
      | nil => rfl
      | cons q es ih =>
        simp only [List.map_cons, look]
        rw [if_neg (fun e => hne (congrArg Prod.fst e))]
        exact ih
  rw [h1]
  simp only []
  have := look_filter (t, 0) (fun q : Nat × Nat => !(d == some q.1)) s.tm
  rw [this]
  have : (!(d == some t)) = true := by simpa using h
  simp [this]
theorem next_on {s : Lst E} {gs gs' : Gs} {d : Option Tmp} {es : List (Nat × Ent E)} {ru : List (Nat × Option (Root E))} {n : Nat} (h : gsFree d gs' = true) (e : E) : (s.next gs d es ru n).on gs' e = s.on gs' e := by
  unfold Lst.on
  unfold gsFree at h
  rw [List.all_eq_true] at h
  have : ∀ q ∈ gs', (s.next gs d es ru n).gval q.1 = s.gval q.1 := fun q hq => next_gval (by have := h q hq; simpa using this)
  clear h
  induction gs' with
  | nil => rfl
  | cons q l ih =>
    simp only [List.all_cons]
    rw [this q (List.mem_cons_self ..), ih fun q' hq' => this q' (List.mem_cons_of_mem _ hq')]

theorem look_es {gs : Gs} {d : Tmp} {i : Nat} : ∀ {es : List (Nat × Ent E)}, look (d, i) (es.map fun q => ((d, q.1), (⟨gs, q.2⟩ : Slot E))) = (look i es).map fun x => ⟨gs, x⟩
  | [] => rfl
  | q :: es => by
    simp only [List.map_cons, look]
    by_cases h : i = q.1
    · rw [if_pos (by rw [h]), if_pos h]; rfl
    · rw [if_neg (fun e => h (congrArg Prod.snd e)), if_neg h]; exact look_es
theorem look_es' {gs : Gs} {d t : Tmp} {i : Nat} (h : ¬ t = d) : ∀ {es : List (Nat × Ent E)}, look (t, i) (es.map fun q => ((d, q.1), (⟨gs, q.2⟩ : Slot E))) = none
  | [] => rfl
  | q :: es => by
    simp only [List.map_cons, look]
    rw [if_neg (fun e => h (congrArg Prod.fst e))]
    exact look_es' h

/-- The state behind a step is the step's doing. -/
theorem next_gr {s : Lst E} {gs : Gs} {d : Option Tmp} {es : List (Nat × Ent E)} {ru : List (Nat × Option (Root E))} {n : Nat} {nt : Nat × Nat} (hok : s.stepOk gs d ru n nt = true) (e : E) : (s.next gs d es ru n).gr e = (s.gr e).app (gdOf s gs d es ru e) := by
  unfold Lst.stepOk at hok
  simp only [Bool.and_eq_true] at hok
  obtain ⟨⟨⟨⟨h1, h2⟩, h3⟩, h4⟩, h5⟩ := hok
  unfold Lst.free at h1
  rw [Bool.and_eq_true] at h1
  obtain ⟨h1, h6⟩ := h1
  rw [List.all_eq_true] at h1 h6
  have hon := next_on (s := s) (gs := gs) (es := es) (ru := ru) (n := n) h2 e
  show (⟨_, _⟩ : G) = ⟨_, _⟩
  congr 1
  · funext q
    obtain ⟨t, i⟩ := q
    show (match look (t, i) (s.next gs d es ru n).tm with | some sl => _ | none => _) = _
    by_cases hd : d = some t
    · subst hd
      have hc : (some (t, i).1 = (gdOf s gs (some t) es ru e).dst) := rfl
      rw [if_pos hc]
      have e1 : look (t, i) (s.next gs (some t) es ru n).tm = (look i es).map fun x => ⟨gs, x⟩ := by
        unfold Lst.next
        simp only []
        rw [look_append, look_es]
        cases look i es with
        | some x => rfl
        | none =>
          simp only [Option.map_none]
          have := look_filter (t, i) (fun q : Nat × Nat => !(some t == some q.1)) s.tm
          rw [this]
          simp
      rw [e1]
      cases hl : look i es with
      | none =>
        simp only [Option.map_none, gdOf, evs, offOf, hl]
        split
        · rfl
        · by_cases hi : i = 0
          · subst hi; simp [hl]
          · simp [hi]
      | some x =>
        simp only [Option.map_some]
        rw [hon]
        simp only [gdOf, evs, offOf, hl]
        split
        · rfl
        · by_cases hi : i = 0
          · subst hi; simp [hl]
          · simp [hi]
    · have hc : ¬ (some (t, i).1 = (gdOf s gs d es ru e).dst) := fun e => hd e.symm
      rw [if_neg hc]
      have e1 : look (t, i) (s.next gs d es ru n).tm = look (t, i) s.tm := by
        unfold Lst.next
        simp only []
        rw [look_append]
        have : look (t, i) (match d with | some d => es.map fun q => ((d, q.1), (⟨gs, q.2⟩ : Slot E)) | none => []) = none := by
          cases d with
          | none => rfl
          | some d => exact look_es' (fun e => hd (by rw [e]))
        rw [this]
        simp only []
        have := look_filter (t, i) (fun q : Nat × Nat => !(d == some q.1)) s.tm
        rw [this]
        have : (!(d == some t)) = true := by simpa using hd
        simp [this]
      rw [e1]
      show _ = (match look (t, i) s.tm with | some sl => _ | none => _)
      cases hl : look (t, i) s.tm with
      | none => rfl
      | some sl =>
        simp only []
        rw [next_on (h1 _ (look_mem hl)) e]
  · funext r
    show (match look r (s.next gs d es ru n).rt with | some q => _ | none => _) = _
    have e1 : look r (s.next gs d es ru n).rt = match look r ru with | some q => some (mergeR s gs r q) | none => look r s.rt := by
      unfold Lst.next
      simp only []
      rw [look_append, look_mapK r (fun r (q : Option (Root E)) => mergeR s gs r q)]
      cases look r ru <;> rfl
    have e2 : look r (gdOf s gs d es ru e).ru = (look r ru).map fun q => q.map (Root.ev e) := by
      unfold gdOf
      simp only []
      exact look_map r (fun q : Option (Root E) => q.map (Root.ev e)) ru
    rw [e1, e2]
    cases hl : look r ru with
    | none =>
      simp only [Option.map_none]
      show _ = (match look r s.rt with | some q => _ | none => _)
      cases hr : look r s.rt with
      | none => rfl
      | some q =>
        simp only []
        rw [next_on (h6 _ (look_mem hr)) e]
    | some q =>
      simp only [Option.map_some]
      show _ = if s.on gs e = true then some (q.map (Root.ev e)) else boOf s r ((s.gr e).rt r)
      cases gs with
      | nil =>
        have : mergeR s [] r q = ([], q) := rfl
        rw [this]
        have h0 : s.on [] e = true := rfl
        rw [if_pos h0, if_pos (show (s.next [] d es ru n).on [] e = true from rfl)]
      | cons g0 l =>
        have h3 : (ru.all fun q => mergeB s q.1 q.2) = true := by simpa using h3
        rw [List.all_eq_true] at h3
        have hm := h3 _ (look_mem hl)
        simp only [] at hm
        unfold mergeB at hm
        have hrt : (s.gr e).rt r = match look r s.rt with | some q => if s.on q.1 e = true then some (q.2.map (Root.ev e)) else none | none => none := rfl
        split at hm
        · rename_i q _ _ hr
          have : mergeR s (g0 :: l) r q = (g0 :: l, q) := by unfold mergeR; rw [hr]
          rw [this]
          simp only []
          rw [hon]
          by_cases ho : s.on (g0 :: l) e = true
          · rw [if_pos ho, if_pos ho]
          · rw [if_neg ho, if_neg ho, hrt, hr]
            simp [boOf, hr]
        · rename_i Ro R hr
          simp only [Bool.and_eq_true, decide_eq_true_eq] at hm
          obtain ⟨⟨⟨k1, k2⟩, k3⟩, k4⟩ := hm
          obtain ⟨Rk, Rm, Rh, Rx⟩ := R
          obtain ⟨Ok, Om, Oh, Ox⟩ := Ro
          simp only [] at k1 k2 k3 k4
          subst k1 k2 k3
          have : mergeR s (g0 :: l) r (some ⟨Ok, Om, Oh + 1, Rx⟩) = ([], some ⟨Ok, Om, Oh + 1, fun e => if s.on (g0 :: l) e then Rx e else Ox e⟩) := by unfold mergeR; rw [hr]; simp
          rw [this]
          rw [if_pos (show (s.next (g0 :: l) d es ru n).on ([], some (⟨Ok, Om, Oh + 1, fun e => if s.on (g0 :: l) e then Rx e else Ox e⟩ : Root E)).1 e = true from rfl)]
          by_cases ho : s.on (g0 :: l) e = true
          · rw [if_pos ho]
            simp [Root.ev, ho]
          · rw [if_neg ho, hrt, hr]
            simp only []
            rw [if_pos (show s.on [] e = true from rfl)]
            simp [boOf, hr, raise, Root.ev, ho]
        · cases hm
theorem step_bo {s : Lst E} {gs : Gs} {d : Option Tmp} {ru : List (Nat × Option (Root E))} {n : Nat} {nt : Nat × Nat} (hok : s.stepOk gs d ru n nt = true) {e : E} (ho : ¬ s.on gs e = true) : ∀ r, (look r ru).isSome = true → (look r s.rt).isSome = true → ∃ R, (s.gr e).rt r = some (some R) ∧ ∃ m1, R.m = .ow m1 := by
  intro r hl hr
  unfold Lst.stepOk at hok
  simp only [Bool.and_eq_true] at hok
  obtain ⟨⟨⟨⟨_, _⟩, h3⟩, _⟩, _⟩ := hok
  cases gs with
  | nil => exact absurd rfl ho
  | cons g0 l =>
    have h3 : (ru.all fun q => mergeB s q.1 q.2) = true := by simpa using h3
    rw [List.all_eq_true] at h3
    obtain ⟨q, hq⟩ := Option.isSome_iff_exists.1 hl
    have hm := h3 _ (look_mem hq)
    simp only [] at hm
    unfold mergeB at hm
    split at hm
    · rename_i hn
      rw [hn] at hr; cases hr
    · rename_i Ro R hn
      simp only [Bool.and_eq_true, decide_eq_true_eq] at hm
      obtain ⟨⟨⟨k1, k2⟩, k3⟩, k4⟩ := hm
      have hrt : (s.gr e).rt r = match look r s.rt with | some q => if s.on q.1 e = true then some (q.2.map (Root.ev e)) else none | none => none := rfl
      rw [hn] at hrt
      simp only [] at hrt
      rw [if_pos (show s.on [] e = true from rfl)] at hrt
      refine ⟨_, hrt, ?_⟩
      have : (Root.ev e Ro).m = R.m := k2
      rw [this]
      unfold Mk.isOw at k4
      split at k4 <;> try (cases k4; done)
      exact ⟨_, by assumption⟩
    · cases hm
end
end Go.Lift

namespace Go.Lift
set_option linter.unusedVariables false
set_option linter.unusedSimpArgs false

/-- A step: what comes behind hangs on more (E'). -/
structure SR (E : Type) : Type 1 where
  E' : Type
  den : (R : Type) → Nat → (E' → Option R) → E → Option R
  s' : Lst E'
  tk : Tk

section
variable {E : Type}
def gTmp (ops : Array Oper) (o : Oper) : List Tmp := match o.guard with
  | none => []
  | some (j, _) => match (ops[j]?).bind (·.dst) with
    | some t => [t]
    | none => []
def guardOf (ops : Array Oper) (s : Lst E) (o : Oper) : Option Gs := match o.guard with
  | none => some []
  | some (j, want) => match (ops[j]?).bind (·.dst) with
    | none => none
    | some t => match look (t, 0) s.tm with
      | some ⟨gs', .val .bool _⟩ => some ((t, want) :: gs')
      | _ => none

def chkDen (s : Lst E) (gs : Gs) (c : Option (E → Bool)) (e : E) : Bool := match c, gs with
  | none, _ => true
  | some b, [] => b e
  | some b, gs => !s.on gs e || b e
def pureDen (s : Lst E) (gs : Gs) (c : Option (E → Bool)) (R : Type) (k : Nat) (K : E → Option R) (e : E) : Option R := match c with
  | none => K e
  | some _ => if chkDen s gs c e = true then K e else none
def callDen {X : Type} (s : Lst E) (gs : Gs) (f : Nat → E → Option X) (d : X) (R : Type) (k : Nat) (K : E × X → Option R) (e : E) : Option R := match gs with
  | [] => (f k e).bind fun x => K (e, x)
  | gs => (if s.on gs e = true then f k e else some d).bind fun x => K (e, x)

/-- A value, once. -/
def lt {A R : Type} (a : A) (f : A → Option R) : Option R := f a

/-! The step's values are bound: what comes behind reads them off the row. -/
def vE : List (Nat × Ent E) → List Kt
  | [] => []
  | (_, .val k _) :: l => k :: vE l
  | _ :: l => vE l
def vEs : (l : List (Nat × Ent E)) → E → HL (vE l)
  | [], _ => ()
  | (_, .val _ x) :: l, e => (x e, vEs l e)
  | (_, .own _) :: l, e => vEs l e
  | (_, .loc _ _ _) :: l, e => vEs l e
  | (_, .sub _ _ _) :: l, e => vEs l e
  | (_, .view _ _ _ _) :: l, e => vEs l e
  | (_, .place _ _) :: l, e => vEs l e
  | (_, .cst _) :: l, e => vEs l e
  | (_, .atl _) :: l, e => vEs l e
def vR : List (Nat × Option (Root E)) → List Kt
  | [] => []
  | (_, some R) :: l => R.k :: vR l
  | (_, none) :: l => vR l
def vRs : (l : List (Nat × Option (Root E))) → E → HL (vR l)
  | [], _ => ()
  | (_, some R) :: l, e => (R.x e, vRs l e)
  | (_, none) :: l, e => vRs l e
def bE {E' : Type} (f : E' → E) : (l : List (Nat × Ent E)) → (E' → HL (vE l)) → List (Nat × Ent E')
  | [], _ => []
  | (i, .val k _) :: l, pr => (i, .val k fun e => (pr e).1) :: bE f l fun e => (pr e).2
  | (i, .own r) :: l, pr => (i, .own r) :: bE f l pr
  | (i, .loc r hv p) :: l, pr => (i, .loc r hv (p.pull f)) :: bE f l pr
  | (i, .sub r hv p) :: l, pr => (i, .sub r hv (p.pull f)) :: bE f l pr
  | (i, .view r hv k p) :: l, pr => (i, .view r hv k (p.pull f)) :: bE f l pr
  | (i, .place k x) :: l, pr => (i, .place k fun e => x (f e)) :: bE f l pr
  | (i, .cst v) :: l, pr => (i, .cst v) :: bE f l pr
  | (i, .atl x) :: l, pr => (i, .atl fun e => x (f e)) :: bE f l pr
def bR {E' : Type} : (l : List (Nat × Option (Root E))) → (E' → HL (vR l)) → List (Nat × Option (Root E'))
  | [], _ => []
  | (i, some R) :: l, pr => (i, some ⟨R.k, R.m, R.hv, fun e => (pr e).1⟩) :: bR l fun e => (pr e).2
  | (i, none) :: l, pr => (i, none) :: bR l pr

theorem bE_ev {E' : Type} (f : E' → E) (e' : E') : ∀ (l : List (Nat × Ent E)) (pr : E' → HL (vE l)), pr e' = vEs l (f e') → (bE f l pr).map (fun q => (q.1, q.2.ev e')) = l.map fun q => (q.1, q.2.ev (f e'))
  | [], pr, h => rfl
  | (i, .val k x) :: l, pr, h => by
    simp only [bE, List.map_cons]
    rw [bE_ev f e' l _ (show (pr e').2 = _ by rw [h]; rfl)]
    have : (pr e').1 = x (f e') := by rw [h]; rfl
    simp only [Ent.ev, this]
  | (i, .own r) :: l, pr, h => by
    simp only [bE, List.map_cons]
    rw [bE_ev f e' l pr h]
    rfl
  | (i, .loc r hv p) :: l, pr, h => by
    simp only [bE, List.map_cons]
    rw [bE_ev f e' l pr h]
    simp only [Ent.ev, Path.at_pull]
  | (i, .sub r hv p) :: l, pr, h => by
    simp only [bE, List.map_cons]
    rw [bE_ev f e' l pr h]
    simp only [Ent.ev, Path.at_pull]
  | (i, .view r hv k p) :: l, pr, h => by
    simp only [bE, List.map_cons]
    rw [bE_ev f e' l pr h]
    simp only [Ent.ev, Path.at_pull]
  | (i, .place k x) :: l, pr, h => by
    simp only [bE, List.map_cons]
    rw [bE_ev f e' l pr h]
    rfl
  | (i, .cst v) :: l, pr, h => by
    simp only [bE, List.map_cons]
    rw [bE_ev f e' l pr h]
    rfl
  | (i, .atl x) :: l, pr, h => by
    simp only [bE, List.map_cons]
    rw [bE_ev f e' l pr h]
    rfl
theorem bR_ev {E' : Type} (f : E' → E) (e' : E') : ∀ (l : List (Nat × Option (Root E))) (pr : E' → HL (vR l)), pr e' = vRs l (f e') → (bR l pr).map (fun q => (q.1, q.2.map (Root.ev e'))) = l.map fun q => (q.1, q.2.map (Root.ev (f e')))
  | [], pr, h => rfl
  | (i, some R) :: l, pr, h => by
    simp only [bR, List.map_cons]
    rw [bR_ev f e' l _ (show (pr e').2 = _ by rw [h]; rfl)]
    have : (pr e').1 = R.x (f e') := by rw [h]; rfl
    simp only [Option.map_some, Root.ev, this]
  | (i, none) :: l, pr, h => by
    simp only [bR, List.map_cons]
    rw [bR_ev f e' l pr h]
    rfl
theorem evs_map {E : Type} (l : List (Nat × Ent E)) (e : E) (i : Nat) : evs l e i = look i (l.map fun q => (q.1, q.2.ev e)) := by
  unfold evs
  induction l with
  | nil => rfl
  | cons q l ih =>
    obtain ⟨j, x⟩ := q
    simp only [List.map_cons, look]
    split
    · rfl
    · exact ih
theorem look_some_map {E : Type} (l : List (Nat × Ent E)) (e : E) (i : Nat) : (look i l).isSome = (look i (l.map fun q => (q.1, q.2.ev e))).isSome := by
  rw [← evs_map]
  unfold evs
  cases look i l <;> rfl

/-- The roots that an operation looks at: a move looks at none. -/
def Lst.rootsD (s : Lst E) (o : Oper) : List Nat := if isMv o then [] else s.rootsOf (opTmps o)
def c_step (P : Program) (tab : Tab) (ops : Array Oper) (nt : Nat × Nat) (s : Lst E) (o : Oper) : Option (SR E) := match guardOf ops s o with
  | none => none
  | some gs => match c_op P tab (onlyArgs ops o) s gs o with
    | none => none
    | some (.pure r) => if (s.pull (Prod.fst (α := E) (β := HL (vE r.es) × HL (vR r.ru)))).stepOk gs o.dst (bR (E' := E × HL (vE r.es) × HL (vR r.ru)) r.ru fun e => e.2.2) r.n nt then
        some ⟨E × HL (vE r.es) × HL (vR r.ru), fun R k K e => pureDen s gs r.chk R k (fun e => lt (vEs r.es e) fun v => lt (vRs r.ru e) fun u => K (e, v, u)) e, (s.pull Prod.fst).next gs o.dst (bE Prod.fst r.es fun e => e.2.1) (bR r.ru fun e => e.2.2) r.n, ⟨opTmps o ++ gTmp ops o, o.dst, s.rootsD o ++ (List.range r.n).map (s.nx + ·) ++ r.ru.map (·.1), r.ru.map (·.1)⟩⟩ else none
    | some (.call r) => if (s.pull (Prod.fst (α := E) (β := r.X))).stepOk gs o.dst r.ru r.n nt then
        some ⟨E × r.X, callDen s gs r.den r.dflt, (s.pull Prod.fst).next gs o.dst r.es r.ru r.n, ⟨opTmps o ++ gTmp ops o, o.dst, s.rootsOf (opTmps o) ++ (List.range r.n).map (s.nx + ·) ++ r.ru.map (·.1), r.ru.map (·.1)⟩⟩ else none

theorem look_ru_wr {E' : Type} {ru : List (Nat × Option (Root E'))} {e : E'} {r : Nat} (h : look r (ru.map fun q => (q.1, q.2.map (Root.ev e))) ≠ none) : (ru.map (·.1)).contains r = true := by
  induction ru with
  | nil => exact absurd rfl h
  | cons q ru ih =>
    simp only [List.map_cons, look] at h
    by_cases hr : r = q.1
    · subst hr; simp
    · rw [if_neg hr] at h
      have := ih h
      simp only [List.map_cons, List.contains_cons, this, Bool.or_true]

theorem app_on {E' : Type} {g : G} {d : Option Tmp} {es : List (Nat × Ent E')} {off : Nat → Option GEnt} {ru : List (Nat × Option (Root E'))} {bo : Nat → Option GR → Option GR} {e : E'} : g.app ⟨true, d, evs es e, off, ru.map fun q => (q.1, q.2.map (Root.ev e)), bo⟩ = g.put d (evs es e) (rtU g.rt ru e) := by
  unfold G.app G.put
  congr 1
  funext r
  simp only [if_true, rtU]
  rw [look_map r (fun q : Option (Root E') => q.map (Root.ev e))]
  cases look r ru <;> rfl

/-- The guard tells whether the operation is carried out. -/
theorem guard_spec {P : Program} {ops : Array Oper} {s : Lst E} {o : Oper} {gs : Gs} (h : guardOf ops s o = some gs) {e : E} {g : G} (hg : ∀ t ∈ gTmp ops o, ∀ c, g.tm (t, c) = (s.gr e).tm (t, c)) {cx : Cx} {a : Act} {w : World} {V : Nat → Value} {Fp : Nat → List Nat} (hp : Pre cx g a w V Fp) :
    Region.wanted o (yielded ops a.tmps) = s.on gs e := by
  unfold guardOf at h
  split at h
  · rename_i hgd
    obtain rfl := Option.some.inj h
    simp [Region.wanted, hgd, Lst.on]
  · rename_i j want hgd
    split at h <;> try (cases h; done)
    rename_i t ht
    split at h <;> try (cases h; done)
    rename_i gs' x hl
    obtain rfl := Option.some.inj h
    have hmem : t ∈ gTmp ops o := by simp [gTmp, hgd, ht]
    have h1 := hg t hmem 0
    have hon : s.on ((t, want) :: gs') e = ((x e == want) && s.on gs' e) := by
      unfold Lst.on
      rw [List.all_cons]
      congr 1
      simp [Lst.gval, hl]
    have h2 : (s.gr e).tm (t, 0) = if s.on gs' e = true then some (.val .bool (x e)) else some (.cst undef) := by
      show (match look (t, 0) s.tm with | some sl => _ | none => _) = _
      rw [hl]
      rfl
    rw [h2] at h1
    rw [hon]
    have hw : Region.wanted o (yielded ops a.tmps) = (yielded ops a.tmps j == some want) := by
      simp [Region.wanted, hgd]
    rw [hw]
    by_cases h3 : s.on gs' e = true
    · rw [if_pos h3] at h1
      obtain ⟨v, u, k1, k2, k3⟩ := hp.ents t 0 _ h1
      obtain rfl := Option.some.inj k2
      have := k3.bool
      subst this
      have hy : yielded ops a.tmps j = some (x e) := by
        unfold yielded
        rw [ht]
        simp only [Option.bind_some, k1]
      rw [hy, h3, Bool.and_true]
      cases x e <;> cases want <;> rfl
    · rw [if_neg h3] at h1
      obtain ⟨v, u, k1, k2, k3⟩ := hp.ents t 0 _ h1
      obtain rfl := Option.some.inj k2
      have hv : v = undef := k3
      subst hv
      have hy : yielded ops a.tmps j = none := by
        unfold yielded
        rw [ht]
        simp only [Option.bind_some, k1]
        rfl
      rw [hy]
      have : s.on gs' e = false := by simpa using h3
      rw [this, Bool.and_false]
      rfl

theorem stepOk_dst {s : Lst E} {gs : Gs} {d : Option Tmp} {ru : List (Nat × Option (Root E))} {n : Nat} {nt : Nat × Nat} (h : s.stepOk gs d ru n nt = true) : ∀ t, d = some t → nt.1 ≤ t ∧ t < nt.2 := by
  intro t ht
  subst ht
  unfold Lst.stepOk at h
  simp only [Bool.and_eq_true] at h
  simpa using h.2
theorem stepOk_new {s : Lst E} {gs : Gs} {d : Option Tmp} {ru : List (Nat × Option (Root E))} {n : Nat} {nt : Nat × Nat} (h : s.stepOk gs d ru n nt = true) (e : E) : ∀ i, i < n → (s.gr e).rt (s.nx + i) = none := by
  intro i hi
  unfold Lst.stepOk at h
  simp only [Bool.and_eq_true] at h
  have := List.all_eq_true.1 h.1.2 i (List.mem_range.2 hi)
  show (match look (s.nx + i) s.rt with | some q => _ | none => _) = none
  cases hl : look (s.nx + i) s.rt with
  | none => rfl
  | some q => rw [hl] at this; cases this

theorem off_sat {cx : Cx} {g : G} {a : Act} {w : World} {V : Nat → Value} {Fp : Nat → List Nat} (hp : Pre cx g a w V Fp) {d : Option Tmp} {es : List (Nat × Ent E)} {x : Nat → Option GEnt} {ru : List (Nat × GR)} {s : Lst E}
    (hup : ∀ r, (look r ru).isSome = true → (look r s.rt).isSome = true → ∃ R, g.rt r = some (some R) ∧ ∃ m1, R.m = .ow m1) (hd : ∀ t, d = some t → cx.T t) : GSat cx (g.app ⟨false, d, x, offOf es, ru, boOf s⟩) (a.put d undef) w := by
  have hun : ∀ r, ¬ ((look r ru).isSome = true ∧ (look r s.rt).isSome = true) → (g.app ⟨false, d, x, offOf es, ru, boOf s⟩).rt r = g.rt r := by
    intro r hr
    show (match look r ru with | some q => if false = true then some q else boOf s r (g.rt r) | none => g.rt r) = _
    cases hl : look r ru with
    | none => rfl
    | some q =>
      simp only [Bool.false_eq_true, if_false]
      have : ¬ (look r s.rt).isSome = true := fun h => hr ⟨by rw [hl]; rfl, h⟩
      unfold boOf
      rw [if_neg this]
  have hon : ∀ r, ((look r ru).isSome = true ∧ (look r s.rt).isSome = true) → (g.app ⟨false, d, x, offOf es, ru, boOf s⟩).rt r = raise (g.rt r) := by
    intro r hr
    show (match look r ru with | some q => if false = true then some q else boOf s r (g.rt r) | none => g.rt r) = _
    obtain ⟨q, hq⟩ := Option.isSome_iff_exists.1 hr.1
    rw [hq]
    simp only [Bool.false_eq_true, if_false]
    unfold boOf
    rw [if_pos hr.2]
  have hst : Step cx g.rt (g.app ⟨false, d, x, offOf es, ru, boOf s⟩).rt V V Fp Fp w w (fun r => (look r ru).isSome = true ∧ (look r s.rt).isSome = true) := by
    refine ⟨rfl, rfl, rfl, Nat.le_refl _, fun _ _ _ => rfl, fun r hr => ⟨hun r hr, rfl, rfl⟩, fun r hr b hb => .inr ⟨r, hr, hb⟩, fun r _ => hp.mem.nodup r, fun r q _ _ hne b hb => hp.mem.disj r q hne b hb, fun r hr hn => ?_, fun r R hr hR hK => ?_, fun r hr => ?_⟩
    · obtain ⟨R, hR, _⟩ := hup r hr.1 hr.2
      rw [hon r hr, hR] at hn
      exact absurd rfl (hn _)
    · obtain ⟨R0, hR0, _⟩ := hup r hr.1 hr.2
      rw [hon r hr, hR0] at hR
      obtain rfl := Option.some.inj (Option.some.inj hR)
      exact hp.mem.roots r R0 hR0
    · obtain ⟨R, hR, m1, hm⟩ := hup r hr.1 hr.2
      rw [hon r hr, hR]
      exact .inr ⟨R.m, R.hv + 1, R.x, rfl, rfl, .inr ⟨Nat.lt_succ_self _, ⟨m1, hm⟩, fun p _ => rfl⟩⟩
  have := GSat.step hp.defers hp.size hp.mem hp.ents hst hd (v := undef) (es := offOf es) fun i en hi => by
    unfold offOf at hi
    split at hi
    · rename_i h
      obtain rfl := Option.some.inj hi
      rw [h.1]
      exact ⟨undef, rfl, rfl⟩
    · cases hi
  exact this

theorem boOf_pull {E' : Type} (f : E' → E) (s : Lst E) : boOf (s.pull f) = boOf s := by
  funext r x
  unfold boOf
  have : (look r (s.pull f).rt).isSome = (look r s.rt).isSome := by
    unfold Lst.pull
    simp only []
    rw [look_map r (fun q : Gs × Option (Root E) => (q.1, q.2.map (Root.pull f)))]
    cases look r s.rt <;> rfl
  rw [this]
theorem look_some_mapR {E' : Type} (r : Nat) (l : List (Nat × Option (Root E'))) (e : E') : (look r (l.map fun q => (q.1, q.2.map (Root.ev e)))).isSome = (look r l).isSome := by
  rw [look_map r (fun q : Option (Root E') => q.map (Root.ev e))]
  cases look r l <;> rfl
theorem look_isSome_mem {β : Type} {r : Nat} {l : List (Nat × β)} (h : (look r l).isSome = true) : r ∈ l.map (·.1) := by
  obtain ⟨q, hq⟩ := Option.isSome_iff_exists.1 h
  exact List.mem_map.2 ⟨_, look_mem hq, rfl⟩

/-- What is known of a step. -/
structure StepIs (P : Program) (Gl : World → Prop) (ops : Array Oper) (nt : Nat × Nat) (o : Oper) (tk : Tk) (g0 g1 : G) (δ : GD) : Prop where
  gr : g1 = g0.app δ
  dst : tk.tw = δ.dst
  wr : ∀ r, look r δ.ru ≠ none → tk.wr r = true
  loc : ∀ cx : Cx, cx.Gl = Gl → cx.nt = nt → OpLoc P ops cx o δ tk g0

theorem c_step_ok {P : Program} {Gl : World → Prop} {tab : Tab} (htab : ∀ f sp, (f, sp) ∈ tab.fs → FnOk P Gl f sp) {ops : Array Oper} {nt : Nat × Nat} {s : Lst E} {o : Oper} {sr : SR E} (h : c_step P tab ops nt s o = some sr) :
    ∀ (R : Type) k (K : sr.E' → Option R) e out, sr.den R k K e = some out → ∃ e', K e' = some out ∧ ∃ δ : GD, StepIs P Gl ops nt o sr.tk (s.gr e) (sr.s'.gr e') δ := by
  unfold c_step at h
  split at h <;> try (cases h; done)
  rename_i gs hgs
  split at h <;> try (cases h; done)
  · rename_i r hr
    split at h <;> try (cases h; done)
    rename_i hok
    obtain rfl := Option.some.inj h
    have hS : Snd P o s gs r := c_op_ok (Gl := Gl) htab hr
    intro R k K e out hden
    have hc : K (e, vEs r.es e, vRs r.ru e) = some out ∧ chkDen s gs r.chk e = true := by
      simp only [pureDen] at hden
      split at hden
      · rename_i h0; exact ⟨hden, by rw [h0]; cases gs <;> rfl⟩
      · rename_i b h0
        split at hden
        · exact ⟨hden, by assumption⟩
        · cases hden
    have hgr : (s.pull (Prod.fst (α := E) (β := HL (vE r.es) × HL (vR r.ru)))).gr (e, vEs r.es e, vRs r.ru e) = s.gr e := gr_pull _ s _
    have hpo : (s.pull (Prod.fst (α := E) (β := HL (vE r.es) × HL (vR r.ru)))).on gs (e, vEs r.es e, vRs r.ru e) = s.on gs e := on_pull _ s gs _
    have hbe := bE_ev (Prod.fst (α := E) (β := HL (vE r.es) × HL (vR r.ru))) (e, vEs r.es e, vRs r.ru e) r.es (fun e => e.2.1) rfl
    have hbr := bR_ev (Prod.fst (α := E) (β := HL (vE r.es) × HL (vR r.ru))) (e, vEs r.es e, vRs r.ru e) r.ru (fun e => e.2.2) rfl
    have hgd : gdOf (s.pull (Prod.fst (α := E) (β := HL (vE r.es) × HL (vR r.ru)))) gs o.dst (bE Prod.fst r.es fun e => e.2.1) (bR r.ru fun e => e.2.2) (e, vEs r.es e, vRs r.ru e) = gdOf s gs o.dst r.es r.ru e := by
      unfold gdOf
      rw [hpo, hbr]
      have h1 : evs (bE (Prod.fst (α := E) (β := HL (vE r.es) × HL (vR r.ru))) r.es fun e => e.2.1) (e, vEs r.es e, vRs r.ru e) = evs r.es e := by
        funext i
        rw [evs_map, evs_map, hbe]
      have h2 : offOf (bE (Prod.fst (α := E) (β := HL (vE r.es) × HL (vR r.ru))) r.es fun e => e.2.1) = offOf r.es := by
        funext i
        unfold offOf
        rw [look_some_map _ (e, vEs r.es e, vRs r.ru e), look_some_map r.es e, hbe]
      rw [h1, h2, boOf_pull]
    have hnx := next_gr (es := bE (Prod.fst (α := E) (β := HL (vE r.es) × HL (vR r.ru))) r.es fun e => e.2.1) hok (e, vEs r.es e, vRs r.ru e)
    rw [hgr, hgd] at hnx
    have hnew : ∀ i, i < r.n → (s.gr e).rt (s.nx + i) = none := fun i hi => by
      have := stepOk_new hok (e, vEs r.es e, vRs r.ru e) i hi
      rw [hgr] at this
      exact this
    refine ⟨(e, vEs r.es e, vRs r.ru e), hc.1, gdOf s gs o.dst r.es r.ru e, hnx, rfl, fun q hq => look_ru_wr hq, fun cx hGl hnt => ?_⟩
    intro g hag a w hsat
    obtain ⟨V, Fp, hp⟩ := hsat.pre
    have hw := guard_spec (P := P) hgs (e := e) (g := g) (fun t ht c => hag.tm t (List.mem_append_right _ ht) c) hp
    have hd : ∀ t, o.dst = some t → cx.T t := by unfold Cx.T; rw [hnt]; exact stepOk_dst hok
    by_cases hon : s.on gs e = true
    · rw [if_pos (by rw [hw]; exact hon)]
      intro Q
      have e1 : g.app (gdOf s gs o.dst r.es r.ru e) = g.put o.dst (evs r.es e) (rtU g.rt r.ru e) := by
        unfold gdOf
        rw [hon]
        exact app_on
      by_cases hmv : isMv o = true
      · obtain ⟨x, hx1, hx2⟩ := c_op_mv hmv hr
        rw [e1]
        exact snd_mv_tm hx1 hx2 hon (fun t ht i => hag.tm t (List.mem_append_left _ ht) i) hd hp
      have hA : Agree g s e (opTmps o) r.n := ⟨fun t ht i => hag.tm t (List.mem_append_left _ ht) i, fun q hq => hag.rt q (List.mem_append_left _ (List.mem_append_left _ (by unfold Lst.rootsD; rw [if_neg hmv]; exact hq))), fun i hi => by
        rw [hag.rt _ (List.mem_append_left _ (List.mem_append_right _ (List.mem_map.2 ⟨i, List.mem_range.2 hi, rfl⟩)))]
        exact hnew i hi⟩
      have hchk : r.ok e = true := by
        have h2 := hc.2
        unfold chkDen at h2
        unfold OR.ok
        cases hcc : r.chk with
        | none => rfl
        | some b =>
          rw [hcc] at h2
          cases gs with
          | nil => exact h2
          | cons q gs =>
            have h2 : (!s.on (q :: gs) e || b e) = true := h2
            rw [hon] at h2
            exact h2
      have := hS cx e g a w V Fp Q hon hchk hA hd hp
      rw [e1]
      exact this
    · rw [if_neg (by rw [hw]; exact hon)]
      unfold gdOf
      have : s.on gs e = false := by simpa using hon
      rw [this]
      refine off_sat hp (fun q hq1 hq2 => ?_) hd
      have h3 := look_some_mapR q (bR (E' := E × HL (vE r.es) × HL (vR r.ru)) r.ru fun e => e.2.2) (e, vEs r.es e, vRs r.ru e)
      rw [hbr] at h3
      obtain ⟨R, hR, hm⟩ := step_bo hok (e := (e, vEs r.es e, vRs r.ru e)) (by rw [hpo]; exact hon) q (by rw [← h3]; exact hq1) (by
        have := congrFun (congrFun (boOf_pull (Prod.fst (α := E) (β := HL (vE r.es) × HL (vR r.ru))) s) q)
        show (look q (s.pull (Prod.fst (α := E) (β := HL (vE r.es) × HL (vR r.ru)))).rt).isSome = true
        unfold Lst.pull
        simp only []
        rw [look_map q (fun p : Gs × Option (Root E) => (p.1, p.2.map (Root.pull (Prod.fst (α := E) (β := HL (vE r.es) × HL (vR r.ru))))))]
        obtain ⟨y, hy⟩ := Option.isSome_iff_exists.1 hq2
        rw [hy]; rfl)
      rw [hgr] at hR
      refine ⟨R, ?_, hm⟩
      rw [look_some_mapR] at hq1
      rw [hag.rt q (List.mem_append_right _ (look_isSome_mem hq1))]
      exact hR
  · rename_i r hr
    split at h <;> try (cases h; done)
    rename_i hok
    obtain rfl := Option.some.inj h
    have hS : SndC P Gl o s gs r := c_op_ok htab hr
    intro R k K e out hden
    have hc : ∃ x, K (e, x) = some out ∧ (s.on gs e = true → r.den k e = some x) := by
      simp only [callDen] at hden
      split at hden
      · obtain ⟨x, h1, h2⟩ := Option.bind_eq_some_iff.1 hden
        exact ⟨x, h2, fun _ => h1⟩
      · obtain ⟨x, h1, h2⟩ := Option.bind_eq_some_iff.1 hden
        refine ⟨x, h2, fun hon => ?_⟩
        rw [if_pos hon] at h1
        exact h1
    obtain ⟨x, hK, hx⟩ := hc
    have hgr : (s.pull (Prod.fst (α := E) (β := r.X))).gr (e, x) = s.gr e := gr_pull _ s (e, x)
    have hpo : (s.pull (Prod.fst (α := E) (β := r.X))).on gs (e, x) = s.on gs e := on_pull _ s gs (e, x)
    refine ⟨(e, x), hK, gdOf (s.pull Prod.fst) gs o.dst r.es r.ru (e, x), ?_, rfl, fun q hq => look_ru_wr hq, fun cx hGl hnt => ?_⟩
    · have := next_gr (es := r.es) hok (e, x)
      rw [hgr] at this
      exact this
    intro g hag a w hsat
    obtain ⟨V, Fp, hp⟩ := hsat.pre
    have hw := guard_spec (P := P) hgs (e := e) (g := g) (fun t ht c => hag.tm t (List.mem_append_right _ ht) c) hp
    have hd : ∀ t, o.dst = some t → cx.T t := by unfold Cx.T; rw [hnt]; exact stepOk_dst hok
    by_cases hon : s.on gs e = true
    · rw [if_pos (by rw [hw]; exact hon)]
      intro Q
      have hA : Agree g s e (opTmps o) r.n := ⟨fun t ht i => hag.tm t (List.mem_append_left _ ht) i, fun q hq => hag.rt q (List.mem_append_left _ (List.mem_append_left _ hq)), fun i hi => by
        rw [hag.rt _ (List.mem_append_left _ (List.mem_append_right _ (List.mem_map.2 ⟨i, List.mem_range.2 hi, rfl⟩)))]
        have := stepOk_new hok (e, x) i hi
        rw [hgr] at this
        exact this⟩
      have := hS cx k e x g a w V Fp Q hGl hon (hx hon) hA hd hp
      have e1 : g.app (gdOf (s.pull Prod.fst) gs o.dst r.es r.ru (e, x)) = g.put o.dst (evs r.es (e, x)) (rtU g.rt r.ru (e, x)) := by
        unfold gdOf
        rw [hpo, hon]
        exact app_on
      rw [e1]
      exact this
    · rw [if_neg (by rw [hw]; exact hon)]
      unfold gdOf
      have : s.on gs e = false := by simpa using hon
      rw [hpo, this]
      refine off_sat hp (s := s.pull (Prod.fst (α := E) (β := r.X))) (fun q hq1 hq2 => ?_) hd
      rw [look_some_mapR] at hq1
      obtain ⟨R, hR, hm⟩ := step_bo hok (e := (e, x)) (by rw [hpo]; exact hon) q hq1 hq2
      rw [hgr] at hR
      refine ⟨R, ?_, hm⟩
      rw [hag.rt q (List.mem_append_right _ (look_isSome_mem hq1))]
      exact hR
end

/-! ### A region -/
structure RR (E : Type) : Type 1 where
  E' : Type
  den : (R : Type) → Nat → (E' → Option R) → E → Option R
  s' : Lst E'
  tks : List Tk

def c_ops (P : Program) (tab : Tab) (ops : Array Oper) (nt : Nat × Nat) : (l : List Oper) → {E : Type} → Lst E → Option (RR E)
  | [], E, s => some ⟨E, fun _ _ K e => K e, s, []⟩
  | o :: l, E, s => match c_step P tab ops nt s o with
    | none => none
    | some sr => match c_ops P tab ops nt l sr.s' with
      | none => none
      | some rr => some ⟨rr.E', fun R k K e => sr.den R k (fun e' => rr.den R k K e') e, rr.s', sr.tk :: rr.tks⟩

theorem gS_shift (S : Nat → Bool) : ∀ (l : List GD) (g : G) (k : Nat), gS g S l (k + 1) = gS g (fun j => S (j + 1)) l k
  | [], g, k => rfl
  | δ :: l, g, k => by
    simp only [gS]
    exact gS_shift S l _ (k + 1)

theorem c_ops_ok {P : Program} {Gl : World → Prop} {tab : Tab} (htab : ∀ f sp, (f, sp) ∈ tab.fs → FnOk P Gl f sp) {ops : Array Oper} {nt : Nat × Nat} : ∀ (l : List Oper) {E : Type} (s : Lst E) (rr : RR E), c_ops P tab ops nt l s = some rr →
    ∀ (R : Type) k (K : rr.E' → Option R) e out, rr.den R k K e = some out → ∃ e', K e' = some out ∧ ∃ ds : List GD, ds.length = l.length ∧ rr.tks.length = l.length ∧ gS (s.gr e) (fun _ => true) ds 0 = rr.s'.gr e' ∧
      (∀ i o δ tk, l[i]? = some o → ds[i]? = some δ → rr.tks[i]? = some tk → (tk.tw = δ.dst ∧ ∀ r, look r δ.ru ≠ none → tk.wr r = true) ∧ ∀ cx : Cx, cx.Gl = Gl → cx.nt = nt → OpLoc P ops cx o δ tk (gS (s.gr e) (fun j => decide (j < i)) ds 0))
  | [], E, s, rr, h => by
    obtain rfl := Option.some.inj h
    intro R k K e out hden
    exact ⟨e, hden, [], rfl, rfl, rfl, fun i o δ tk hi => by cases hi⟩
  | o :: l, E, s, rr, h => by
    simp only [c_ops] at h
    split at h <;> try (cases h; done)
    rename_i sr hsr
    split at h <;> try (cases h; done)
    rename_i rr' hrr
    obtain rfl := Option.some.inj h
    intro R k K e out hden
    obtain ⟨e1, hK1, δ, hδ⟩ := c_step_ok htab hsr R k _ e out hden
    obtain ⟨e', hK, ds, h1, h2, h3, h4⟩ := c_ops_ok htab l sr.s' rr' hrr R k K e1 out hK1
    refine ⟨e', hK, δ :: ds, by simp [h1], by simp [h2], ?_, fun i o' δ' tk hi hd ht => ?_⟩
    · simp only [gS, if_true]
      rw [← hδ.gr, gS_shift]
      exact h3
    · cases i with
      | zero =>
        obtain rfl := Option.some.inj hi
        obtain rfl := Option.some.inj hd
        obtain rfl := Option.some.inj ht
        refine ⟨⟨hδ.dst, hδ.wr⟩, fun cx hGl hnt => ?_⟩
        have : gS (s.gr e) (fun j => decide (j < 0)) (δ :: ds) 0 = s.gr e := by
          have : ∀ (l : List GD) (g : G) (k : Nat), gS g (fun j => decide (j < 0)) l k = g := by
            intro l
            induction l with
            | nil => intro g k; rfl
            | cons δ l ih => intro g k; simp only [gS]; rw [ih]; simp
          exact this _ _ _
        rw [this]
        exact hδ.loc cx hGl hnt
      | succ i =>
        obtain ⟨h5, h6⟩ := h4 i o' δ' tk hi hd ht
        refine ⟨h5, fun cx hGl hnt => ?_⟩
        have : gS (s.gr e) (fun j => decide (j < i + 1)) (δ :: ds) 0 = gS (sr.s'.gr e1) (fun j => decide (j < i)) ds 0 := by
          simp only [gS]
          rw [if_pos (by simp), ← hδ.gr, gS_shift]
          congr 1
          funext j
          simp
        rw [this]
        exact h6 cx hGl hnt

/-- A region: one order serves all. -/
def c_region (P : Program) (tab : Tab) (nt : Nat × Nat) (ops : Array Oper) (draw : Bool) {E : Type} (s : Lst E) : Option (RR E) := match c_ops P tab ops nt ops.toList s with
  | none => none
  | some rr => if !draw || (edgesBack ops.toList && ordOk (befs ops.toList []) rr.tks) then some rr else none

theorem wpList_plan {P : Program} {ops : Array Oper} {cx : Cx} {Q : Exit → Act → World → Prop} : ∀ (l : List Oper) (ds : List GD) (tks : List Tk) (g0 : G), ds.length = l.length → tks.length = l.length →
    (∀ i o δ tk, l[i]? = some o → ds[i]? = some δ → tks[i]? = some tk → OpLoc P ops cx o δ tk (gS g0 (fun j => decide (j < i)) ds 0)) → (∀ a w, GSat cx (gS g0 (fun _ => true) ds 0) a w → Q .normal a w) → ∀ a w, GSat cx g0 a w → wpList P ops Q l a w
  | [], ds, tks, g0, hl, ht, hloc, hQ, a, w, hs => by
    rw [List.length_eq_zero_iff.1 hl] at hQ
    exact hQ a w hs
  | o :: l, ds, tks, g0, hl, ht, hloc, hQ, a, w, hs => by
    match ds, tks, hl, ht with
    | δ :: ds, tk :: tks, hl, ht =>
      have h0 := hloc 0 o δ tk rfl rfl rfl
      have e0 : gS g0 (fun j => decide (j < 0)) (δ :: ds) 0 = g0 := by
        have : ∀ (l : List GD) (g : G) (k : Nat), gS g (fun j => decide (j < 0)) l k = g := by
          intro l
          induction l with
          | nil => intro g k; rfl
          | cons δ l ih => intro g k; simp only [gS]; rw [ih]; simp
        exact this _ _ _
      rw [e0] at h0
      have hstep := h0 g0 ⟨fun _ _ _ => rfl, fun _ _ => rfl⟩ a w hs
      have next : ∀ a' w', GSat cx (g0.app δ) a' w' → wpList P ops Q l a' w' := by
        refine wpList_plan l ds tks (g0.app δ) (by simpa using hl) (by simpa using ht) (fun i o' δ' tk' hi hd htk => ?_) (fun a' w' h => hQ a' w' ?_)
        · have := hloc (i + 1) o' δ' tk' hi hd htk
          have e1 : gS g0 (fun j => decide (j < i + 1)) (δ :: ds) 0 = gS (g0.app δ) (fun j => decide (j < i)) ds 0 := by
            simp only [gS]
            rw [if_pos (by simp), gS_shift]
            congr 1
            funext j
            simp
          rw [e1] at this
          exact this
        · simp only [gS, if_true]
          rw [gS_shift]
          exact h
      unfold wpList
      split
      · rename_i hw
        rw [if_pos hw] at hstep
        exact .inl (Oper.wp_mono (fun a' w' h => next a' w' h) (hstep Q))
      · rename_i hw
        rw [if_neg hw] at hstep
        exact next _ _ hstep

theorem GSat.drew {cx : Cx} {g : G} {a : Act} {w : World} (h : GSat cx g a w) (n : Nat) : GSat cx g a { w with drawn := n } := by
  obtain ⟨V, Fp, hp⟩ := h.pre
  have hst : Step cx g.rt g.rt V V Fp Fp w { w with drawn := n } (fun _ => False) := Step.id rfl rfl rfl rfl
  exact ⟨hp.defers, hp.size, V, Fp, hst.mem hp.mem, fun t i ent he => by
    obtain ⟨v, u, h1, h2, h3⟩ := hp.ents t i ent he
    exact ⟨v, u, h1, h2, hst.esat hp.mem h3⟩⟩

theorem c_region_ok {P : Program} {Gl : World → Prop} {tab : Tab} (hm : P.follows .mixedOrders = true) (htab : ∀ f sp, (f, sp) ∈ tab.fs → FnOk P Gl f sp) {nt : Nat × Nat} {id : Nat} {ops : Array Oper} {draw : Bool} {E : Type} {s : Lst E} {rr : RR E} (h : c_region P tab nt ops draw s = some rr) :
    ∀ (R : Type) k (K : rr.E' → Option R) e out, rr.den R k K e = some out → ∃ e', K e' = some out ∧ ∀ (cx : Cx) a w (Q : Exit → Act → World → Prop), cx.Gl = Gl → cx.nt = nt → GSat cx (s.gr e) a w → (∀ a' w', GSat cx (rr.s'.gr e') a' w' → Q .normal a' w') → (Code.region id ops draw).wp P Q a w := by
  unfold c_region at h
  split at h <;> try (cases h; done)
  rename_i rr' hrr
  split at h <;> try (cases h; done)
  rename_i hdr
  obtain rfl := Option.some.inj h
  intro R k K e out hden
  obtain ⟨e', hK, ds, h1, h2, h3, h4⟩ := c_ops_ok htab ops.toList s rr' hrr R k K e out hden
  refine ⟨e', hK, fun cx a w Q hGl hnt hs hQ => ?_⟩
  have hQ' : ∀ a' w', GSat cx (gS (s.gr e) (fun _ => true) ds 0) a' w' → Q .normal a' w' := by rw [h3]; exact hQ
  cases draw with
  | false =>
    exact wp_region_list (wpList_plan ops.toList ds rr'.tks (s.gr e) h1 h2 (fun i o δ tk hi hd ht => (h4 i o δ tk hi hd ht).2 cx hGl hnt) hQ' a w hs)
  | true =>
    simp only [Bool.not_true, Bool.false_or, Bool.and_eq_true] at hdr
    have hplan : Plan P ops cx (s.gr e) ds rr'.tks := ⟨by simpa using h1, by simpa using h2, fun i o δ tk hi hd ht => (h4 i o δ tk (by simpa using hi) hd ht).2 cx hGl hnt, fun i δ tk hd ht => by
      have hlt : i < ops.toList.length := by rw [← h1]; exact (List.getElem?_eq_some_iff.1 hd).1
      exact (h4 i ops.toList[i] δ tk (List.getElem?_eq_getElem hlt) hd ht).1, hdr.1, hdr.2⟩
    refine wp_region_any hm (plan_any hplan hQ' ops.size _ a _ (by simp) (fun j o hj hl => ?_) (by simp) ?_)
    · exfalso
      simp [Array.getD] at hl
    · have : gS (s.gr e) (fun j => (Array.replicate ops.size false).getD j false) ds 0 = s.gr e := by
        have e0 : (fun j => (Array.replicate ops.size false).getD j false) = fun _ => false := by
          funext j
          simp [Array.getD]
        rw [e0]
        have : ∀ (l : List GD) (g : G) (k : Nat), gS g (fun _ => false) l k = g := by
          intro l
          induction l with
          | nil => intro g k; rfl
          | cons δ l ih => intro g k; simp only [gS]; rw [ih]; simp
        exact this _ _ _
      rw [this]
      exact hs.drew _
end Go.Lift

namespace Go.Lift
set_option linter.unusedVariables false
set_option linter.unusedSimpArgs false

/-! ### Where ways meet: a state's shape, its data in a row -/
inductive EntS where
  | val (k : Kt)
  | own (j : Nat)
  | place (k : Kt)
  deriving DecidableEq
structure Shape where
  rts : List (Kt × Mk × (Nat × Nat))
  tms : List ((Nat × Nat) × EntS)
  deriving DecidableEq

def tkk : List ((Nat × Nat) × EntS) → List Kt
  | [] => []
  | (_, .val k) :: l => k :: tkk l
  | (_, .own _) :: l => tkk l
  | (_, .place k) :: l => k :: tkk l
def Shape.D (sh : Shape) : Type := HL (sh.rts.map (·.1)) × HL (tkk sh.tms)

section
variable {E' : Type}
def unR : (l : List (Kt × Mk × (Nat × Nat))) → Nat → (E' → HL (l.map (·.1))) → List (Nat × (Gs × Option (Root E')))
  | [], _, _ => []
  | (k, m, _) :: l, j, pr => (j, ([], some ⟨k, m, 0, fun e => (pr e).1⟩)) :: unR l (j + 1) fun e => (pr e).2
def unT : (l : List ((Nat × Nat) × EntS)) → (E' → HL (tkk l)) → List ((Nat × Nat) × Slot E')
  | [], _ => []
  | (q, .val k) :: l, pr => (q, ⟨[], .val k fun e => (pr e).1⟩) :: unT l fun e => (pr e).2
  | (q, .own j) :: l, pr => (q, ⟨[], .own j⟩) :: unT l pr
  | (q, .place k) :: l, pr => (q, ⟨[], .place k fun e => (pr e).1⟩) :: unT l fun e => (pr e).2
end
def unpack (sh : Shape) : Lst sh.D := ⟨unT sh.tms Prod.snd, unR sh.rts 0 Prod.fst, sh.rts.length⟩

section
variable {E : Type}
/-- How a root of the shape is come by: an owned root (its inner parts given up: true), or nil. -/
inductive Src' where
  | root (r : Nat) (relax : Bool)
  | nil (v : Value)

def packRoot (s : Lst E) (k : Kt) (m : Mk) (q : Nat × Nat) : Option ((E → k.T) × Src') := match s.at [] q with
  | some (.own r) => match s.root [] r with
    | some R => if h : R.k = k then
        if R.m.eqv m = true then some (fun e => h ▸ R.x e, .root r false)
        else match R.m, m with
          | .ow m1, .ow .sh => if m1.whole && !k.fixed then some (fun e => h ▸ R.x e, .root r true) else none
          | _, _ => none
      else none
    | none => none
  | some (.cst (.slice none 0 0)) => match k, m with
    | .sl _ _, .ow _ => some (fun _ => [], .nil (.slice none 0 0))
    | .win (.sl _ _), .ow _ => some (fun _ => ([], 0), .nil (.slice none 0 0))
    | _, _ => none
  | some (.cst .nilIface) => match k, m with
    | .ifc _ _, .ow _ => some (fun _ => none, .nil .nilIface)
    | _, _ => none
  | _ => none
def packR (s : Lst E) : (l : List (Kt × Mk × (Nat × Nat))) → Option ((E → HL (l.map (·.1))) × List Src')
  | [] => some (fun _ => (), [])
  | (k, m, q) :: l => match packRoot s k m q, packR s l with
    | some (f, r), some (fs, rs) => some (fun e => (f e, fs e), r :: rs)
    | _, _ => none
def isRoot (r : Nat) : Src' → Bool
  | .root r' _ => r' == r
  | .nil _ => false
def packT (s : Lst E) (mp : List Src') : (l : List ((Nat × Nat) × EntS)) → Option (E → HL (tkk l))
  | [] => some fun _ => ()
  | (q, .val k) :: l => match packT s mp l with
    | none => none
    | some fs => match s.at [] q with
      | some (.val k' x) => if h : k' = k then some fun e => (h ▸ x e, fs e) else none
      | some (.own r) => match s.root [] r with
        | some R => if h : R.k = k then if R.m.whole && !mp.any (isRoot r) then some fun e => (h ▸ R.x e, fs e) else none else none
        | none => none
      | some (.cst (.slice none 0 0)) => match k with
        | .sl _ _ => some fun e => ([], fs e)
        | .win (.sl _ _) => some fun e => (([], 0), fs e)
        | _ => none
      | some (.cst .nilIface) => match k with
        | .ifc _ _ => some fun e => (none, fs e)
        | _ => none
      | _ => none
  | (q, .own j) :: l => match packT s mp l with
    | none => none
    | some fs => match s.at [] q, mp[j]? with
      | some (.own r), some (.root r' _) => if r = r' then some fs else none
      | some (.cst (.slice none 0 0)), some (.nil (.slice none 0 0)) => some fs
      | some (.cst .nilIface), some (.nil .nilIface) => some fs
      | _, _ => none
  | (q, .place k) :: l => match packT s mp l with
    | none => none
    | some fs => match s.at [] q with
      | some (.place k' x) => if h : k' = k then some fun e => (h ▸ x e, fs e) else none
      | _ => none
def srcNodup : List Src' → Bool
  | [] => true
  | .root r _ :: l => !l.any (isRoot r) && srcNodup l
  | .nil _ :: l => srcNodup l
def pack (s : Lst E) (sh : Shape) : Option (E → sh.D) := match packR s sh.rts with
  | none => none
  | some (f, mp) => if srcNodup mp then match packT s mp sh.tms with
    | some fs => some fun e => (f e, fs e)
    | none => none
    else none

/-- The footprint of what is packed. -/
def srcF (Fp : Nat → List Nat) : Option Src' → List Nat
  | some (.root r false) => Fp r
  | some (.root r true) => (Fp r).take 1
  | _ => []
def srcV (V : Nat → Value) : Option Src' → Value
  | some (.root r _) => V r
  | some (.nil v) => v
  | none => .slice none 0 0

theorem srcF_sub {Fp : Nat → List Nat} {x : Option Src'} {b : Nat} (h : b ∈ srcF Fp x) : ∃ r x', x = some (.root r x') ∧ b ∈ Fp r := by
  cases x with
  | none => cases h
  | some x =>
    cases x with
    | nil => cases h
    | root r rx =>
      cases rx with
      | false => exact ⟨r, false, rfl, h⟩
      | true => exact ⟨r, true, rfl, List.mem_of_mem_take h⟩

theorem packR_len {s : Lst E} : ∀ {l : List (Kt × Mk × (Nat × Nat))} {f : E → HL (l.map (·.1))} {mp : List Src'}, packR s l = some (f, mp) → mp.length = l.length
  | [], f, mp, h => by
    obtain ⟨_, rfl⟩ := Prod.mk.inj (Option.some.inj h); rfl
  | (k, m, q) :: l, f, mp, h => by
    simp only [packR] at h
    split at h <;> try (cases h; done)
    rename_i f0 r0 fs rs h1 h2
    obtain ⟨_, rfl⟩ := Prod.mk.inj (Option.some.inj h)
    simp [packR_len h2]

theorem srcNodup_spec : ∀ {mp : List Src'}, srcNodup mp = true → ∀ (i j r : Nat) (x y : Bool), i ≠ j → mp[i]? = some (.root r x) → mp[j]? = some (.root r y) → False
  | [], h, i, j, r, x, y, hne, hi, hj => by cases hi
  | .nil _ :: l, h, i, j, r, x, y, hne, hi, hj => by
    cases i with
    | zero => simp at hi
    | succ i =>
      cases j with
      | zero => simp at hj
      | succ j => exact srcNodup_spec (mp := l) h i j r x y (by omega) (by simpa using hi) (by simpa using hj)
  | .root r0 x0 :: l, h, i, j, r, x, y, hne, hi, hj => by
    simp only [srcNodup, Bool.and_eq_true, Bool.not_eq_true'] at h
    have key : ∀ (j : Nat) (y : Bool), l[j]? = some (Src'.root r0 y) → False := by
      intro j y hj
      have : l.any (isRoot r0) = true := List.any_eq_true.2 ⟨_, List.mem_of_getElem? hj, by simp [isRoot]⟩
      rw [h.1] at this; cases this
    cases i with
    | zero =>
      obtain ⟨rfl, rfl⟩ := Src'.root.inj (Option.some.inj hi)
      cases j with
      | zero => exact hne rfl
      | succ j => exact key j y (by simpa using hj)
    | succ i =>
      cases j with
      | zero =>
        obtain ⟨rfl, rfl⟩ := Src'.root.inj (Option.some.inj hj)
        exact key i x (by simpa using hi)
      | succ j => exact srcNodup_spec (mp := l) h.2 i j r x y (by omega) (by simpa using hi) (by simpa using hj)

theorem packRoot_rz {s : Lst E} {k : Kt} {m : Mk} {q : Nat × Nat} {f : E → k.T} {src : Src'} (h : packRoot s k m q = some (f, src)) {cx : Cx} {e : E} {a : Act} {w : World} {V : Nat → Value} {Fp : Nat → List Nat} (hp : Pre cx (s.gr e) a w V Fp) {S' : Nat → Prop}
    (hS : ∀ b, cx.Sh Fp b → S' b) (hR : ∀ r, src = .root r true → ∀ b ∈ (Fp r).drop 1, S' b) : ∃ cs, Shows k (srcV V (some src)) cs ∧ Rz w S' k m (srcF Fp (some src)) (f e) cs := by
  unfold packRoot at h
  split at h <;> try (cases h; done)
  · rename_i r hq
    split at h <;> try (cases h; done)
    rename_i R hR'
    split at h <;> try (cases h; done)
    rename_i hk
    have hrt := Lst.root_gr (e := e) (gs := []) rfl hR'
    obtain ⟨cs, z1, z2⟩ := hp.mem.roots r _ hrt
    obtain ⟨Rk, Rm, Rhv, Rx⟩ := R
    have hk : Rk = k := hk
    subst hk
    split at h
    · rename_i hm
      obtain ⟨rfl, rfl⟩ := Prod.mk.inj (Option.some.inj h)
      exact ⟨cs, z1, Rz_keep ⟨Nat.le_refl _, fun b hb _ => ⟨rfl, hS b hb⟩⟩ _ _ _ _ _ (fun _ _ => rfl) (Rz_eqv _ Rm m _ _ _ hm z2)⟩
    · split at h <;> try (cases h; done)
      rename_i hm1 _
      split at h <;> try (cases h; done)
      rename_i hw
      simp only [Bool.and_eq_true, Bool.not_eq_true'] at hw
      obtain ⟨hw, hagg⟩ := hw
      obtain ⟨rfl, rfl⟩ := Prod.mk.inj (Option.some.inj h)
      have hm1 : Rm = .ow _ := hm1
      subst hm1
      exact ⟨cs, z1, Rz_relax (fun b hb _ => hS b hb) _ _ _ _ _ hw hagg (hR r rfl) z2⟩
  · split at h <;> try (cases h; done)
    all_goals obtain ⟨rfl, rfl⟩ := Prod.mk.inj (Option.some.inj h)
    · exact ⟨[.slice none 0 0], rfl, .inl ⟨rfl, rfl, rfl⟩⟩
    · exact ⟨[.slice none 0 0], rfl, .inr ⟨by simp, none, 0, 0, rfl, Nat.le_refl _, .inl ⟨rfl, rfl, rfl⟩⟩⟩
  · split at h <;> try (cases h; done)
    obtain ⟨rfl, rfl⟩ := Prod.mk.inj (Option.some.inj h)
    exact ⟨[.nilIface], rfl, .inr ⟨by simp, .inl ⟨rfl, rfl, rfl⟩⟩⟩
theorem packR_look {s : Lst E} {E' : Type} {e : E} {d : E'} {cx : Cx} {a : Act} {w : World} {V : Nat → Value} {Fp : Nat → List Nat} (hp : Pre cx (s.gr e) a w V Fp) {S' : Nat → Prop} (hS : ∀ b, cx.Sh Fp b → S' b) :
    ∀ (l : List (Kt × Mk × (Nat × Nat))) (f : E → HL (l.map (·.1))) (mp : List Src') (j0 : Nat) (pr : E' → HL (l.map (·.1))), packR s l = some (f, mp) → pr d = f e →
      (∀ (i r : Nat), mp[i]? = some (Src'.root r true) → ∀ b ∈ (Fp r).drop 1, S' b) → ∀ j q, look j (unR l j0 pr) = some q → ∃ i src R, j = j0 + i ∧ mp[i]? = some src ∧ q = ([], some R) ∧ ∃ cs, Shows R.k (srcV V (some src)) cs ∧ Rz w S' R.k R.m (srcF Fp (some src)) (R.x d) cs
  | [], f, mp, j0, pr, h, hpr, hR, j, q, hl => by cases hl
  | (k, m, qq) :: l, f, mp, j0, pr, h, hpr, hR, j, q, hl => by
    simp only [packR] at h
    split at h <;> try (cases h; done)
    rename_i f0 r0 fs rs h1 h2
    obtain ⟨rfl, rfl⟩ := Prod.mk.inj (Option.some.inj h)
    simp only [unR, look] at hl
    split at hl
    · rename_i hj
      obtain rfl := Option.some.inj hl
      obtain ⟨cs, z1, z2⟩ := packRoot_rz h1 hp hS (fun r hr => hR 0 r (by simp [hr]))
      refine ⟨0, r0, _, by omega, rfl, rfl, cs, z1, ?_⟩
      have : (pr d).1 = f0 e := by rw [hpr]
      show Rz w S' k m _ (pr d).1 cs
      rw [this]; exact z2
    · obtain ⟨i, src, R, e1, e2, e3, e4⟩ := packR_look hp hS l fs rs (j0 + 1) (fun e => (pr e).2) h2 (by show (pr d).2 = _; rw [hpr]) (fun i r hr => hR (i + 1) r (by simpa using hr)) j q hl
      exact ⟨i + 1, src, R, by omega, by simpa using e2, e3, e4⟩
theorem unR_some {E' : Type} : ∀ (l : List (Kt × Mk × (Nat × Nat))) (j0 : Nat) (pr : E' → HL (l.map (·.1))) (i : Nat), i < l.length → ∃ R, look (j0 + i) (unR l j0 pr) = some ([], some R)
  | [], j0, pr, i, h => by simp at h
  | (k, m, q) :: l, j0, pr, i, h => by
    simp only [unR, look]
    by_cases hi : j0 + i = j0
    · rw [if_pos hi]; exact ⟨_, rfl⟩
    · rw [if_neg hi]
      obtain ⟨R, hR⟩ := unR_some l (j0 + 1) (fun e => (pr e).2) (i - 1) (by simp at h; omega)
      have : j0 + 1 + (i - 1) = j0 + i := by omega
      rw [this] at hR
      exact ⟨R, hR⟩
theorem packR_live {s : Lst E} {e : E} : ∀ (l : List (Kt × Mk × (Nat × Nat))) (f : E → HL (l.map (·.1))) (mp : List Src'), packR s l = some (f, mp) → ∀ (i r : Nat) (x : Bool), mp[i]? = some (Src'.root r x) → ∃ R, (s.gr e).rt r = some (some R)
  | [], f, mp, h, i, r, x, hi => by
    obtain ⟨_, rfl⟩ := Prod.mk.inj (Option.some.inj h)
    cases hi
  | (k, m, qq) :: l, f, mp, h, i, r, x, hi => by
    simp only [packR] at h
    split at h <;> try (cases h; done)
    rename_i f0 r0 fs rs h1 h2
    obtain ⟨_, rfl⟩ := Prod.mk.inj (Option.some.inj h)
    cases i with
    | succ i => exact packR_live l fs rs h2 i r x (by simpa using hi)
    | zero =>
      have hi : r0 = .root r x := by simpa using hi
      subst hi
      unfold packRoot at h1
      split at h1 <;> try (cases h1; done)
      · split at h1 <;> try (cases h1; done)
        rename_i R hR
        have := Lst.root_gr (e := e) (gs := []) rfl hR
        split at h1 <;> try (cases h1; done)
        split at h1
        · obtain ⟨_, h3⟩ := Prod.mk.inj (Option.some.inj h1)
          obtain ⟨rfl, _⟩ := Src'.root.inj h3
          exact ⟨_, this⟩
        · split at h1 <;> try (cases h1; done)
          split at h1 <;> try (cases h1; done)
          obtain ⟨_, h3⟩ := Prod.mk.inj (Option.some.inj h1)
          obtain ⟨rfl, _⟩ := Src'.root.inj h3
          exact ⟨_, this⟩
      · split at h1 <;> (cases h1; done)
      · split at h1 <;> (cases h1; done)

theorem packT_look {s : Lst E} {E' : Type} {e : E} {d : E'} {cx : Cx} {a : Act} {w : World} {V V' : Nat → Value} {Fp Fp' : Nat → List Nat} {mp : List Src'} {rt' : Nat → Option GR} (hp : Pre cx (s.gr e) a w V Fp) (hS : ∀ b, cx.Sh Fp b → cx.Sh Fp' b)
    (hfz : ∀ r, mp.any (isRoot r) = false → ∀ b ∈ Fp r, cx.Sh Fp' b) (hV : ∀ j, V' j = srcV V mp[j]?) (hrt : ∀ (j : Nat) (src : Src'), mp[j]? = some src → ∃ R, rt' j = some (some R)) (hlive : ∀ (i r : Nat) (x : Bool), mp[i]? = some (Src'.root r x) → ∃ R, (s.gr e).rt r = some (some R)) :
    ∀ (l : List ((Nat × Nat) × EntS)) (f : E → HL (tkk l)) (pr : E' → HL (tkk l)), packT s mp l = some f → pr d = f e →
      ∀ q sl, look q (unT l pr) = some sl → sl.gs = [] ∧ ∃ en, (s.gr e).tm q = some en ∧ ∀ u, ESat cx (s.gr e).rt V Fp w en u → ESat cx rt' V' Fp' w (sl.ent.ev d) u
  | [], f, pr, h, hpr, q, sl, hl => by cases hl
  | (qq, .val k) :: l, f, pr, h, hpr, q, sl, hl => by
    simp only [packT] at h
    split at h <;> try (cases h; done)
    rename_i fs h2
    have ih : ∀ f0 : E → k.T, some f = some (fun e => (f0 e, fs e)) → _ := fun f0 hf => packT_look hp hS hfz hV hrt hlive l fs (fun e => (pr e).2) h2 (by show (pr d).2 = _; rw [hpr, Option.some.inj hf])
    have fin : ∀ (f0 : E → k.T) (en : Ent E), some f = some (fun e => (f0 e, fs e)) → s.at [] qq = some en → (∀ u, ESat cx (s.gr e).rt V Fp w (en.ev e) u → ESat cx rt' V' Fp' w (.val k (f0 e)) u) →
        sl.gs = [] ∧ ∃ en, (s.gr e).tm q = some en ∧ ∀ u, ESat cx (s.gr e).rt V Fp w en u → ESat cx rt' V' Fp' w (sl.ent.ev d) u := by
      intro f0 en hf hat hu
      simp only [unT, look] at hl
      split at hl
      · rename_i hq
        subst hq
        obtain rfl := Option.some.inj hl
        refine ⟨rfl, _, Lst.at_gr (e := e) hat rfl, fun u h => ?_⟩
        have := hu u h
        show ESat cx rt' V' Fp' w (.val k (pr d).1) u
        rw [hpr, Option.some.inj hf]
        exact this
      · exact ih f0 hf q sl hl
    split at h <;> try (cases h; done)
    · rename_i k' x hat
      split at h <;> try (cases h; done)
      rename_i hk
      subst hk
      refine fin _ _ h.symm hat fun u ⟨cs, h3, h4⟩ => ⟨cs, h3, ?_⟩
      exact Rz_keep ⟨Nat.le_refl _, fun b hb _ => ⟨rfl, hS b hb⟩⟩ _ _ _ _ _ (fun _ _ => rfl) h4
    · rename_i r hat
      split at h <;> try (cases h; done)
      rename_i R hR
      split at h <;> try (cases h; done)
      rename_i hk
      split at h <;> try (cases h; done)
      rename_i hc
      simp only [Bool.and_eq_true, Bool.not_eq_true'] at hc
      obtain ⟨Rk, Rm, Rhv, Rx⟩ := R
      have hk : Rk = k := hk
      subst hk
      refine fin _ _ h.symm hat fun u hu => ?_
      obtain ⟨R1, g1, g2⟩ := hu
      have hrr := Lst.root_gr (e := e) (gs := []) rfl hR
      rw [hrr] at g1
      obtain rfl := Option.some.inj g1
      have := g2 (by simp)
      subst this
      obtain ⟨cs, z1, z2⟩ := hp.mem.roots r _ hrr
      exact ⟨cs, z1, Rz_share (fun b hb _ => hS b hb) _ _ _ _ _ hc.1 (hfz r hc.2) z2⟩
    · rename_i hat
      split at h <;> try (cases h; done)
      · rename_i T e1
        refine fin (fun _ => []) _ h.symm hat fun u hu => ?_
        obtain rfl : u = .slice none 0 0 := hu
        exact ⟨[.slice none 0 0], rfl, rfl, .inr ⟨by simp, none, 0, rfl, capOk0, .inl ⟨rfl, fun _ => rfl⟩⟩⟩
      · rename_i T e1
        refine fin (fun _ => ([], 0)) _ h.symm hat fun u hu => ?_
        obtain rfl : u = .slice none 0 0 := hu
        exact ⟨[.slice none 0 0], rfl, .inr ⟨by simp, none, 0, 0, rfl, Nat.le_refl _, rfl, .inr ⟨by simp, none, 0, rfl, capOk0, .inl ⟨rfl, fun _ => rfl⟩⟩⟩⟩
    · rename_i hat
      split at h <;> try (cases h; done)
      rename_i T e1
      refine fin (fun _ => none) _ h.symm hat fun u hu => ?_
      obtain rfl : u = .nilIface := hu
      exact ⟨[.nilIface], rfl, .inr ⟨by simp, .inl ⟨rfl, rfl, rfl⟩⟩⟩
  | (qq, .own j) :: l, f, pr, h, hpr, q, sl, hl => by
    simp only [packT] at h
    split at h <;> try (cases h; done)
    rename_i fs h2
    have ih : fs = f → _ := fun hf => packT_look hp hS hfz hV hrt hlive l fs pr h2 (by rw [hpr, hf])
    have fin : ∀ (en : Ent E), fs = f → s.at [] qq = some en → (∀ u, ESat cx (s.gr e).rt V Fp w (en.ev e) u → ESat cx rt' V' Fp' w (.own j) u) →
        sl.gs = [] ∧ ∃ en, (s.gr e).tm q = some en ∧ ∀ u, ESat cx (s.gr e).rt V Fp w en u → ESat cx rt' V' Fp' w (sl.ent.ev d) u := by
      intro en hf hat hu
      simp only [unT, look] at hl
      split at hl
      · rename_i hq
        subst hq
        obtain rfl := Option.some.inj hl
        exact ⟨rfl, _, Lst.at_gr (e := e) hat rfl, hu⟩
      · exact ih hf q sl hl
    split at h <;> try (cases h; done)
    · rename_i r r' rx hat hm
      split at h <;> try (cases h; done)
      rename_i hr
      subst hr
      refine fin _ (Option.some.inj h) hat fun u hu => ?_
      obtain ⟨R1, g1, g2⟩ := hu
      obtain ⟨R2, g3⟩ := hlive _ _ _ hm
      obtain ⟨R3, g4⟩ := hrt _ _ hm
      rw [g3] at g1
      obtain rfl := Option.some.inj g1
      exact ⟨_, g4, fun _ => by rw [hV, hm]; exact g2 (by simp)⟩
    · rename_i hat hm
      refine fin _ (Option.some.inj h) hat fun u hu => ?_
      obtain rfl : u = .slice none 0 0 := hu
      obtain ⟨R3, g4⟩ := hrt _ _ hm
      exact ⟨_, g4, fun _ => by rw [hV, hm]; rfl⟩
    · rename_i hat hm
      refine fin _ (Option.some.inj h) hat fun u hu => ?_
      obtain rfl : u = .nilIface := hu
      obtain ⟨R3, g4⟩ := hrt _ _ hm
      exact ⟨_, g4, fun _ => by rw [hV, hm]; rfl⟩
  | (qq, .place k) :: l, f, pr, h, hpr, q, sl, hl => by
    simp only [packT] at h
    split at h <;> try (cases h; done)
    rename_i fs h2
    split at h <;> try (cases h; done)
    rename_i k' x hat
    split at h <;> try (cases h; done)
    rename_i hk
    subst hk
    simp only [unT, look] at hl
    split at hl
    · rename_i hq
      subst hq
      obtain rfl := Option.some.inj hl
      refine ⟨rfl, _, Lst.at_gr (e := e) hat rfl, fun u hu => ?_⟩
      obtain ⟨b, o, cc, h3, h4, h5, h6, h7⟩ := hu
      refine ⟨b, o, cc, h3, hS b h4, h5, ?_, h7⟩
      have : (pr d).1 = x e := by rw [hpr, ← Option.some.inj h]
      show Rz w (cx.Sh Fp') k' .sh [] (pr d).1 cc
      rw [this]
      exact Rz_keep ⟨Nat.le_refl _, fun b hb _ => ⟨rfl, hS b hb⟩⟩ _ _ _ _ _ (fun _ _ => rfl) h6
    · exact packT_look hp hS hfz hV hrt hlive l fs (fun e => (pr e).2) h2 (by show (pr d).2 = _; rw [hpr, ← Option.some.inj h]) q sl hl

theorem gr_rt {E : Type} (s : Lst E) (e : E) (j : Nat) : (s.gr e).rt j = match look j s.rt with
    | some q => if s.on q.1 e = true then some (q.2.map (Root.ev e)) else none
    | none => none := rfl
theorem gr_tm {E : Type} (s : Lst E) (e : E) (q : Nat × Nat) : (s.gr e).tm q = match look q s.tm with
    | some sl => if s.on sl.gs e = true then some (sl.ent.ev e) else if q.2 = 0 then some (.cst undef) else none
    | none => none := rfl
/-- **A state may be seen in its shape.** -/
theorem pack_ok {s : Lst E} {sh : Shape} {f : E → sh.D} (h : pack s sh = some f) {cx : Cx} {e : E} {a : Act} {w : World} (hs : GSat cx (s.gr e) a w) : GSat cx ((unpack sh).gr (f e)) a w := by
  unfold pack at h
  split at h <;> try (cases h; done)
  rename_i fR mp h1
  split at h <;> try (cases h; done)
  rename_i hnd
  split at h <;> try (cases h; done)
  rename_i fT h2
  obtain rfl := Option.some.inj h
  obtain ⟨V, Fp, hp⟩ := hs.pre
  have hlen := packR_len h1
  have hlive := packR_live (e := e) _ _ _ h1
  have hndS := srcNodup_spec hnd
  have hsub : ∀ (j b : Nat), b ∈ srcF Fp mp[j]? → ∃ (r : Nat) (x : Bool), mp[j]? = some (Src'.root r x) ∧ b ∈ Fp r := fun j b hb => srcF_sub hb
  have hS : ∀ b, cx.Sh Fp b → cx.Sh (fun j => srcF Fp mp[j]?) b := fun b hb => ⟨hb.1, fun j hj => by
    obtain ⟨r, x, _, h4⟩ := hsub j b hj
    exact hb.2 r h4⟩
  have hown : ∀ r b, b ∈ Fp r → cx.S0 b ∨ cx.M b ∨ cx.w0.heap.size ≤ b := fun r b hb => .inr (hp.mem.own r b hb)
  have hfz : ∀ r, mp.any (isRoot r) = false → ∀ b ∈ Fp r, cx.Sh (fun j => srcF Fp mp[j]?) b := fun r hr b hb => ⟨hown r b hb, fun j hj => by
    obtain ⟨r', x, h3, h4⟩ := hsub j b hj
    by_cases hrr : r' = r
    · subst hrr
      have : mp.any (isRoot r') = true := List.any_eq_true.2 ⟨_, List.mem_of_getElem? h3, by simp [isRoot]⟩
      rw [hr] at this; cases this
    · exact hp.mem.disj _ _ hrr b h4 hb⟩
  have hrx : ∀ (i r : Nat), mp[i]? = some (Src'.root r true) → ∀ b ∈ (Fp r).drop 1, cx.Sh (fun j => srcF Fp mp[j]?) b := fun i r hi b hb => ⟨hown r b (List.mem_of_mem_drop hb), fun j hj => by
    by_cases hij : i = j
    · subst hij
      simp only [hi, srcF] at hj
      have hn := hp.mem.nodup r
      rw [← List.take_append_drop 1 (Fp r), List.nodup_append] at hn
      exact hn.2.2 b hj b hb rfl
    · obtain ⟨r', x, h3, h4⟩ := hsub j b hj
      by_cases hrr : r' = r
      · subst hrr; exact hndS _ _ _ _ _ hij hi h3
      · exact hp.mem.disj _ _ hrr b h4 (List.mem_of_mem_drop hb)⟩
  have hlk := packR_look (E' := sh.D) (d := (fR e, fT e)) hp hS sh.rts fR mp 0 Prod.fst h1 rfl hrx
  have hgr := fun j => gr_rt (unpack sh) ((fR e, fT e) : sh.D) j
  have hrt : ∀ (j : Nat) (src : Src'), mp[j]? = some src → ∃ R, ((unpack sh).gr (fR e, fT e)).rt j = some (some R) := fun j src hj => by
    have hj' := (List.getElem?_eq_some_iff.1 hj).1
    obtain ⟨R, hR⟩ := unR_some (E' := sh.D) sh.rts 0 Prod.fst j (by rw [← hlen]; exact hj')
    rw [Nat.zero_add] at hR
    have hR' : look j (unpack sh).rt = some ([], some R) := hR
    exact ⟨R.ev ((fR e, fT e) : sh.D), by rw [hgr, hR']; rfl⟩
  refine ⟨hp.defers, hp.size, fun j => srcV V mp[j]?, fun j => srcF Fp mp[j]?, ⟨hp.mem.os, hp.mem.tape, hp.mem.output, hp.mem.size, hp.mem.frame, fun j R hj => ?_, fun j hj => ?_, fun j => ?_, fun j j' hjj b hb hb' => ?_, fun j b hb => ?_⟩, fun t i ent he => ?_⟩
  · rw [hgr] at hj
    split at hj <;> try (cases hj; done)
    rename_i q hq
    obtain ⟨i, src, R0, rfl, e2, rfl, cs, e3, e4⟩ := hlk j q hq
    have : R = R0.ev (fR e, fT e) := by
      have := Option.some.inj hj
      exact (Option.some.inj this).symm
    subst this
    refine ⟨cs, ?_, ?_⟩
    · show Shows _ (srcV V mp[0 + i]?) cs
      rw [Nat.zero_add, e2]; exact e3
    · show Rz w _ _ _ (srcF Fp mp[0 + i]?) _ cs
      rw [Nat.zero_add, e2]; exact e4
  · cases hm : mp[j]? with
    | none => rfl
    | some src =>
      obtain ⟨R, hR⟩ := hrt j src hm
      exact absurd hR (hj R)
  · show (srcF Fp mp[j]?).Nodup
    cases hm : mp[j]? with
    | none => exact List.nodup_nil
    | some src =>
      cases src with
      | nil => exact List.nodup_nil
      | root r x =>
        cases x with
        | false => exact hp.mem.nodup r
        | true => exact (hp.mem.nodup r).sublist (List.take_sublist 1 _)
  · obtain ⟨r, x, h3, h4⟩ := hsub j b hb
    obtain ⟨r', x', h5, h6⟩ := hsub j' b hb'
    by_cases hrr : r = r'
    · subst hrr; exact hndS _ _ _ _ _ hjj h3 h5
    · exact hp.mem.disj _ _ hrr b h4 h6
  · obtain ⟨r, x, h3, h4⟩ := hsub j b hb
    exact hp.mem.own r b h4
  · have hgt := fun q => gr_tm (unpack sh) ((fR e, fT e) : sh.D) q
    rw [hgt] at he
    split at he <;> try (cases he; done)
    rename_i sl hsl
    obtain ⟨g1, en, g2, g3⟩ := packT_look (E' := sh.D) (d := (fR e, fT e)) (V' := fun j => srcV V mp[j]?) hp hS hfz (fun _ => rfl) hrt hlive sh.tms fT Prod.snd h2 rfl _ sl hsl
    have : (unpack sh).on sl.gs (fR e, fT e) = true := by rw [g1]; rfl
    rw [if_pos this] at he
    obtain rfl := Option.some.inj he
    obtain ⟨v, u, e1, e2, e3⟩ := hp.ents t i en g2
    exact ⟨v, u, e1, e2, g3 u e3⟩
end
end Go.Lift

namespace Go.Lift
set_option linter.unusedVariables false
set_option linter.unusedSimpArgs false

/-! ### Whole bodies -/
abbrev Tgt := List (Option Nat × Shape)
def Hd (R : Type) : Tgt → Type
  | [] => Unit
  | (_, sh) :: Γ => (sh.D → Option R) × Hd R Γ
def exitOf : Option Nat → Exit
  | none => .ret
  | some i => .exit i

inductive Hint where
  | leaf
  | seq (a b : Hint)
  | cond (j : Option Shape) (a b : Hint)
  | block (j : Shape) (nrm : Bool) (a : Hint)
  | loop (j : Shape) (a : Hint)
  | fail
  | scope (a : Hint)
  | pre (j : Shape) (a : Hint)

structure CR (R : Type) (Γ : Tgt) (E : Type) : Type 1 where
  nrm : Bool
  E' : Type
  s' : Lst E'
  den : Nat → Hd R Γ → (E' → Option R) → E → Option R

def loopN {D R : Type} (body : (D → Option R) → D → Option R) : Nat → D → Option R
  | 0, _ => none
  | k + 1, d => body (loopN body k) d

/-- What follows, once. -/
def shr {D R : Type} (K : D → Option R) (f : (D → Option R) → Option R) : Option R := f K

def c_exit {E R : Type} (s : Lst E) (id : Option Nat) : (Γ : Tgt) → Option (Hd R Γ → E → Option R)
  | [] => none
  | (i, sh) :: Γ => if i = id then match pack s sh with
      | some f => some fun hd e => hd.1 (f e)
      | none => none
    else match c_exit s id Γ with
      | some g => some fun hd e => g hd.2 e
      | none => none

/-- What follows, where it is reached. -/
def c_into {E : Type} (nrm : Bool) (s : Lst E) (j : Shape) {R : Type} : Option ((j.D → Option R) → E → Option R) := match nrm with
  | false => some fun _ _ => none
  | true => match pack s j with
    | some f => some fun K e => K (f e)
    | none => none

/-- A region behind changes of shape. -/
def c_reg (P : Program) (tab : Tab) (nt : Nat × Nat) (R : Type) (Γ : Tgt) (ops : Array Oper) (draw : Bool) : Hint → {E : Type} → Lst E → Option (CR R Γ E)
  | .leaf, E, s => match c_region P tab nt ops draw s with
    | some rr => some ⟨true, rr.E', rr.s', fun k _ K e => rr.den R k K e⟩
    | none => none
  | .pre j h, E, s => match pack s j, c_reg P tab nt R Γ ops draw h (unpack j) with
    | some f, some cr => some ⟨cr.nrm, cr.E', cr.s', fun k hd K e => cr.den k hd K (f e)⟩
    | _, _ => none
  | _, _, _ => none

section
variable (P : Program) (tab : Tab) (nt : Nat × Nat) (R : Type)
/-- Where nothing is said: the answer is none. -/
def c_fail {R E : Type} {Γ : Tgt} (s : Lst E) : CR R Γ E := ⟨false, E, s, fun _ _ _ _ => none⟩
def c_code : Code → (Γ : Tgt) → Hint → {E : Type} → Lst E → Option (CR R Γ E)
  | _, Γ, .fail, E, s => some (c_fail s)
  | .skip, Γ, .leaf, E, s => some ⟨true, E, s, fun _ _ K e => K e⟩
  | .label _, Γ, .leaf, E, s => some ⟨true, E, s, fun _ _ K e => K e⟩
  | .scope a, Γ, .scope ha, E, s => c_code a Γ ha s
  | .region _ ops draw, Γ, h, E, s => c_reg P tab nt R Γ ops draw h s
  | .exit id, Γ, .leaf, E, s => match c_exit (R := R) s (some id) Γ with
    | some g => some ⟨false, E, s, fun _ hd _ e => g hd e⟩
    | none => none
  | .ret, Γ, .leaf, E, s => match c_exit (R := R) s none Γ with
    | some g => some ⟨false, E, s, fun _ hd _ e => g hd e⟩
    | none => none
  | .seq a b, Γ, .seq ha hb, E, s => match c_code a Γ ha s with
    | none => none
    | some ca => match ca.nrm with
      | false => some ⟨false, ca.E', ca.s', fun k hd _ e => ca.den k hd (fun _ => none) e⟩
      | true => match c_code b Γ hb ca.s' with
        | none => none
        | some cb => some ⟨cb.nrm, cb.E', cb.s', fun k hd K e => ca.den k hd (fun e' => cb.den k hd K e') e⟩
  | .cond c x y, Γ, .cond j hx hy, E, s => match s.op [] c with
    | some (.val .bool t) => match c_code x Γ hx s, c_code y Γ hy s with
      | some cx, some cy => match cx.nrm, cy.nrm, j with
        | false, _, none => some ⟨cy.nrm, cy.E', cy.s', fun k hd K e => if t e then cx.den k hd (fun _ => none) e else cy.den k hd K e⟩
        | true, false, none => some ⟨true, cx.E', cx.s', fun k hd K e => if t e then cx.den k hd K e else cy.den k hd (fun _ => none) e⟩
        | _, _, some j => match c_into (R := R) cx.nrm cx.s' j, c_into (R := R) cy.nrm cy.s' j with
          | some fx, some fy => some ⟨true, j.D, unpack j, fun k hd K e => shr K fun K => if t e then cx.den k hd (fx K) e else cy.den k hd (fy K) e⟩
          | _, _ => none
        | _, _, _ => none
      | _, _ => none
    | _ => none
  | .block id a, Γ, .block j nrm ha, E, s => match c_code a ((some id, j) :: Γ) ha s with
    | none => none
    | some ca => match c_into (R := R) ca.nrm ca.s' j with
      | none => none
      | some f => some ⟨nrm, j.D, unpack j, fun k hd K e => shr K fun K => ca.den k (K, hd) (f K) e⟩
  | .loop a, Γ, .loop j ha, E, s => match pack s j, c_code a Γ ha (unpack j) with
    | some f0, some ca => match c_into (R := R) ca.nrm ca.s' j with
      | none => none
      | some f => some ⟨false, j.D, unpack j, fun k hd _ e => loopN (fun self d => ca.den k hd (f self) d) k (f0 e)⟩
    | _, _ => none
  | _, _, _, _, _ => none
end

/-! ### A body is what it is compiled to -/
inductive HdAt {R : Type} : (Γ : Tgt) → Hd R Γ → Option Nat → (sh : Shape) → (sh.D → Option R) → Prop
  | here {id : Option Nat} {sh : Shape} {Γ : Tgt} {hd : Hd R ((id, sh) :: Γ)} : HdAt ((id, sh) :: Γ) hd id sh hd.1
  | there {id id' : Option Nat} {sh sh' : Shape} {Γ : Tgt} {hd : Hd R ((id', sh') :: Γ)} {h : sh.D → Option R} (hne : id' ≠ id) (ht : HdAt Γ hd.2 id sh h) : HdAt ((id', sh') :: Γ) hd id sh h

def HdOk {R : Type} (cx : Cx) (out : R) (Γ : Tgt) (hd : Hd R Γ) (Q : Exit → Act → World → Prop) : Prop :=
  ∀ id sh h, HdAt Γ hd id sh h → ∀ d a w, h d = some out → GSat cx ((unpack sh).gr d) a w → Q (exitOf id) a w

theorem c_exit_at {E R : Type} {s : Lst E} {id : Option Nat} : ∀ {Γ : Tgt} {g : Hd R Γ → E → Option R}, c_exit s id Γ = some g → ∀ hd, ∃ sh f, pack s sh = some f ∧ ∃ h, HdAt Γ hd id sh h ∧ ∀ e, g hd e = h (f e)
  | [], g, h, hd => by cases h
  | (i, sh) :: Γ, g, h, hd => by
    simp only [c_exit] at h
    split at h
    · rename_i hi
      subst hi
      split at h <;> try (cases h; done)
      rename_i f hf
      obtain rfl := Option.some.inj h
      exact ⟨sh, f, hf, _, .here, fun e => rfl⟩
    · rename_i hi
      split at h <;> try (cases h; done)
      rename_i g' hg
      obtain rfl := Option.some.inj h
      obtain ⟨sh', f, h1, h', h2, h3⟩ := c_exit_at hg hd.2
      exact ⟨sh', f, h1, h', .there hi h2, h3⟩

theorem c_exit_ok {E R : Type} {s : Lst E} {id : Option Nat} {Γ : Tgt} {g : Hd R Γ → E → Option R} (h : c_exit s id Γ = some g) {hd : Hd R Γ} {e : E} {out : R} (ho : g hd e = some out) {cx : Cx} {a : Act} {w : World} {Q : Exit → Act → World → Prop} (hs : GSat cx (s.gr e) a w)
    (hk : HdOk cx out Γ hd Q) : Q (exitOf id) a w := by
  obtain ⟨sh, f, h1, h', h2, h3⟩ := c_exit_at h hd
  rw [h3] at ho
  exact hk _ _ _ h2 _ _ _ ho (pack_ok h1 hs)

theorem c_into_ok {E R : Type} {nrm : Bool} {s : Lst E} {j : Shape} {f : (j.D → Option R) → E → Option R} (h : c_into nrm s j = some f) {K : j.D → Option R} {e : E} {out : R} (ho : f K e = some out) : ∃ d, K d = some out ∧ ∀ cx a w, GSat cx (s.gr e) a w → GSat cx ((unpack j).gr d) a w := by
  unfold c_into at h
  split at h
  · obtain rfl := Option.some.inj h
    cases ho
  · split at h <;> try (cases h; done)
    rename_i f' hf
    obtain rfl := Option.some.inj h
    exact ⟨f' e, ho, fun cx a w hs => pack_ok hf hs⟩

theorem cond_eval {E : Type} {s : Lst E} {c : Operand} {t : E → Bool} (h : s.op [] c = some (.val .bool t)) {cx : Cx} {e : E} {a : Act} {w : World} (hs : GSat cx (s.gr e) a w) : a.eval c = .bool (t e) := by
  obtain ⟨V, Fp, hp⟩ := hs.pre
  unfold Lst.op at h
  split at h
  · rename_i t'
    obtain ⟨v, u, h1, h2, h3⟩ := hp.ents _ _ _ (Lst.at_gr (e := e) h rfl)
    obtain rfl := Option.some.inj h2
    have : a.eval (.tmp t') = v := by simp [Act.eval, h1]
    rw [this]
    exact h3.bool
  all_goals first | (cases h; done) | skip
  · obtain h := Option.some.inj h
    injection h with h1 h2
    subst h2
    rfl

theorem c_reg_ok {P : Program} {Gl : World → Prop} {tab : Tab} (hm : P.follows .mixedOrders = true) (htab : ∀ f sp, (f, sp) ∈ tab.fs → FnOk P Gl f sp) {nt : Nat × Nat} {R : Type} {Γ : Tgt} {id : Nat} {ops : Array Oper} {draw : Bool} :
    ∀ (hi : Hint) {E : Type} (s : Lst E) (cr : CR R Γ E), c_reg P tab nt R Γ ops draw hi s = some cr → ∀ (k : Nat) (hd : Hd R Γ) (K : cr.E' → Option R) (e : E) (out : R), cr.den k hd K e = some out →
      ∀ (cx : Cx) (a : Act) (w : World) (Q : Exit → Act → World → Prop), cx.Gl = Gl → cx.nt = nt → GSat cx (s.gr e) a w → (∀ e' a' w', K e' = some out → GSat cx (cr.s'.gr e') a' w' → Q .normal a' w') → (Code.region id ops draw).wp P Q a w := by
  intro hi
  induction hi with
  | leaf =>
    intro E s cr h k hd K e out ho cx a w Q hGl hnt hs hQ
    simp only [c_reg] at h
    split at h <;> try (cases h; done)
    rename_i rr hrr
    obtain rfl := Option.some.inj h
    obtain ⟨e', h1, h2⟩ := c_region_ok (id := id) hm htab hrr R k K e out ho
    exact h2 cx a w Q hGl hnt hs fun a' w' hs' => hQ e' a' w' h1 hs'
  | pre j hh ih =>
    intro E s cr h k hd K e out ho cx a w Q hGl hnt hs hQ
    simp only [c_reg] at h
    split at h <;> try (cases h; done)
    rename_i f cr' hf hcr
    obtain rfl := Option.some.inj h
    exact ih (unpack j) cr' hcr k hd K (f e) out ho cx a w Q hGl hnt (pack_ok hf hs) hQ
  | _ =>
    intro E s cr h
    simp only [c_reg] at h
    cases h

theorem c_code_ok {P : Program} {Gl : World → Prop} {tab : Tab} (hm : P.follows .mixedOrders = true) (htab : ∀ f sp, (f, sp) ∈ tab.fs → FnOk P Gl f sp) {nt : Nat × Nat} {R : Type} :
    ∀ (c : Code) (Γ : Tgt) (hi : Hint) {E : Type} (s : Lst E) (cr : CR R Γ E), c_code P tab nt R c Γ hi s = some cr → ∀ (k : Nat) (hd : Hd R Γ) (K : cr.E' → Option R) (e : E) (out : R), cr.den k hd K e = some out →
      ∀ (cx : Cx) (a : Act) (w : World) (Q : Exit → Act → World → Prop), cx.Gl = Gl → cx.nt = nt → GSat cx (s.gr e) a w → (∀ e' a' w', K e' = some out → GSat cx (cr.s'.gr e') a' w' → Q .normal a' w') → HdOk cx out Γ hd Q → c.wp P Q a w := by
  intro c
  induction c with
  | skip =>
    intro Γ hi E s cr h k hd K e out ho cx a w Q hGl hnt hs hQ hH
    cases hi <;> simp only [c_code] at h <;> try (first | (cases h; done) | (obtain rfl := Option.some.inj h; cases ho; done))
    obtain rfl := Option.some.inj h
    exact wp_skip (hQ e a w ho hs)
  | label l =>
    intro Γ hi E s cr h k hd K e out ho cx a w Q hGl hnt hs hQ hH
    cases hi <;> simp only [c_code] at h <;> try (first | (cases h; done) | (obtain rfl := Option.some.inj h; cases ho; done))
    obtain rfl := Option.some.inj h
    exact wp_label (hQ e a w ho hs)
  | region id ops draw =>
    intro Γ hi E s cr h k hd K e out ho cx a w Q hGl hnt hs hQ hH
    have h' : hi = .fail ∨ c_reg P tab nt R Γ ops draw hi s = some cr := by
      cases hi <;> simp only [c_code] at h <;> first | exact .inl rfl | exact .inr h
    rcases h' with rfl | h'
    · simp only [c_code] at h
      obtain rfl := Option.some.inj h
      cases ho
    · exact c_reg_ok hm htab hi s cr h' k hd K e out ho cx a w Q hGl hnt hs hQ
  | exit id =>
    intro Γ hi E s cr h k hd K e out ho cx a w Q hGl hnt hs hQ hH
    cases hi <;> simp only [c_code] at h <;> try (first | (cases h; done) | (obtain rfl := Option.some.inj h; cases ho; done))
    split at h <;> try (cases h; done)
    rename_i g hg
    obtain rfl := Option.some.inj h
    exact wp_exit (c_exit_ok hg ho hs hH)
  | ret =>
    intro Γ hi E s cr h k hd K e out ho cx a w Q hGl hnt hs hQ hH
    cases hi <;> simp only [c_code] at h <;> try (first | (cases h; done) | (obtain rfl := Option.some.inj h; cases ho; done))
    split at h <;> try (cases h; done)
    rename_i g hg
    obtain rfl := Option.some.inj h
    exact wp_ret (c_exit_ok hg ho hs hH)
  | seq x y ihx ihy =>
    intro Γ hi E s cr h k hd K e out ho cx a w Q hGl hnt hs hQ hH
    cases hi <;> simp only [c_code] at h <;> try (first | (cases h; done) | (obtain rfl := Option.some.inj h; cases ho; done))
    split at h <;> try (cases h; done)
    rename_i ca hca
    have hH' : ∀ N : Act → World → Prop, HdOk cx out Γ hd (Exit.then N Q) := fun N id sh h' hat d a w hd' hs' => by
      have := hH id sh h' hat d a w hd' hs'
      cases id <;> exact this
    split at h
    · rename_i hn
      obtain rfl := Option.some.inj h
      refine wp_seq (ihx Γ _ s ca hca k hd (fun _ => none) e out ho cx a w _ hGl hnt hs (fun e' a' w' hn => by cases hn) (hH' _))
    · split at h <;> try (cases h; done)
      rename_i cb hcb
      obtain rfl := Option.some.inj h
      exact wp_seq (ihx Γ _ s ca hca k hd _ e out ho cx a w _ hGl hnt hs (fun e' a' w' hK hs' => ihy Γ _ ca.s' cb hcb k hd K e' out hK cx a' w' Q hGl hnt hs' hQ hH) (hH' _))
  | cond c x y ihx ihy =>
    intro Γ hi E s cr h k hd K e out ho cx a w Q hGl hnt hs hQ hH
    cases hi <;> simp only [c_code] at h <;> try (first | (cases h; done) | (obtain rfl := Option.some.inj h; cases ho; done))
    split at h <;> try (cases h; done)
    rename_i t ht
    have hev := cond_eval ht hs
    split at h <;> try (cases h; done)
    rename_i cx1 cy1 hx1 hy1
    split at h
    · obtain rfl := Option.some.inj h
      refine wp_cond_split hev (fun htt => ?_) (fun htt => ?_)
      · simp only [htt, if_true] at ho
        exact ihx Γ _ s cx1 hx1 k hd _ e out ho cx a w Q hGl hnt hs (fun e' a' w' hn => by cases hn) hH
      · simp only [htt, Bool.false_eq_true, if_false] at ho
        exact ihy Γ _ s cy1 hy1 k hd _ e out ho cx a w Q hGl hnt hs hQ hH
    · obtain rfl := Option.some.inj h
      refine wp_cond_split hev (fun htt => ?_) (fun htt => ?_)
      · simp only [htt, if_true] at ho
        exact ihx Γ _ s cx1 hx1 k hd _ e out ho cx a w Q hGl hnt hs hQ hH
      · simp only [htt, Bool.false_eq_true, if_false] at ho
        exact ihy Γ _ s cy1 hy1 k hd _ e out ho cx a w Q hGl hnt hs (fun e' a' w' hn => by cases hn) hH
    · split at h <;> try (cases h; done)
      rename_i fx fy hfx hfy
      obtain rfl := Option.some.inj h
      refine wp_cond_split hev (fun htt => ?_) (fun htt => ?_)
      · simp only [shr, htt, if_true] at ho
        refine ihx Γ _ s cx1 hx1 k hd _ e out ho cx a w Q hGl hnt hs (fun e' a' w' hn hs' => ?_) hH
        obtain ⟨d, h1, h2⟩ := c_into_ok hfx hn
        exact hQ d a' w' h1 (h2 _ _ _ hs')
      · simp only [shr, htt, Bool.false_eq_true, if_false] at ho
        refine ihy Γ _ s cy1 hy1 k hd _ e out ho cx a w Q hGl hnt hs (fun e' a' w' hn hs' => ?_) hH
        obtain ⟨d, h1, h2⟩ := c_into_ok hfy hn
        exact hQ d a' w' h1 (h2 _ _ _ hs')
    · cases h
  | block id x ih =>
    intro Γ hi E s cr h k hd K e out ho cx a w Q hGl hnt hs hQ hH
    cases hi <;> simp only [c_code] at h <;> try (first | (cases h; done) | (obtain rfl := Option.some.inj h; cases ho; done))
    split at h <;> try (cases h; done)
    rename_i ca hca
    split at h <;> try (cases h; done)
    rename_i f hf
    obtain rfl := Option.some.inj h
    refine wp_block (ih _ _ s ca hca k (K, hd) _ e out ho cx a w _ hGl hnt hs (fun e' a' w' hn hs' => ?_) fun i sh h' hat d a w hd' hs' => ?_)
    · obtain ⟨d, h1, h2⟩ := c_into_ok hf hn
      exact hQ d a' w' h1 (h2 _ _ _ hs')
    · cases hat with
      | here =>
        show (if id = id then _ else _)
        rw [if_pos rfl]
        exact hQ d a w hd' hs'
      | there hne hat =>
        have := hH i sh h' hat d a w hd' hs'
        cases i with
        | none => exact this
        | some i =>
          show (if i = id then _ else _)
          rw [if_neg fun e => hne (by rw [e])]
          exact this
  | loop x ih =>
    intro Γ hi E s cr h k hd K e out ho cx a w Q hGl hnt hs hQ hH
    cases hi <;> simp only [c_code] at h <;> try (first | (cases h; done) | (obtain rfl := Option.some.inj h; cases ho; done))
    rename_i j ha
    split at h <;> try (cases h; done)
    rename_i f0 ca hf0 hca
    split at h <;> try (cases h; done)
    rename_i f hf
    obtain rfl := Option.some.inj h
    refine wp_loop_ghost (fun n a w => ∃ d, loopN (fun self d => ca.den k hd (f self) d) n d = some out ∧ GSat cx ((unpack j).gr d) a w) k ⟨f0 e, ho, pack_ok hf0 hs⟩ fun n a w ⟨d, h1, h2⟩ => ?_
    cases n with
    | zero => cases h1
    | succ n =>
      refine ih Γ _ (unpack j) ca hca k hd _ d out h1 cx a w _ hGl hnt h2 (fun e' a' w' hn hs' => ?_) fun id sh h' hat d a w hd' hs' => ?_
      · obtain ⟨d', h3, h4⟩ := c_into_ok hf hn
        exact ⟨n, Nat.lt_succ_self n, d', h3, h4 _ _ _ hs'⟩
      · have := hH id sh h' hat d a w hd' hs'
        cases id <;> exact this
  | scope x ih =>
    intro Γ hi E s cr h k hd K e out ho cx a w Q hGl hnt hs hQ hH
    cases hi <;> simp only [c_code] at h <;> try (first | (cases h; done) | (obtain rfl := Option.some.inj h; cases ho; done))
    refine wp_scope_straight (ih Γ _ s cr h k hd K e out ho cx a w _ hGl hnt hs (fun e' a' w' hn hs' => hQ e' a' w' hn hs') fun id sh h' hat d a w hd' hs' => ?_)
    have := hH id sh h' hat d a w hd' hs'
    cases id <;> exact this
  | _ =>
    intro Γ hi E s cr h k hd K e out ho
    cases hi <;> simp only [c_code] at h <;> first | (cases h; done) | (obtain rfl := Option.some.inj h; cases ho; done)
end Go.Lift

namespace Go.Lift
set_option linter.unusedVariables false
set_option linter.unusedSimpArgs false

/-! ### A function: its parameters -/
section
variable {E : Type}
def iniT : (ps : List (Kt × PM)) → Nat → (E → HL (ps.map (·.1))) → List ((Nat × Nat) × Slot E)
  | [], _, _ => []
  | (k, .val) :: ps, i, pr => ((i, 0), ⟨[], .val k fun e => (pr e).1⟩) :: iniT ps (i + 1) fun e => (pr e).2
  | (_, .mut _) :: ps, i, pr => ((i, 0), ⟨[], .own i⟩) :: iniT ps (i + 1) fun e => (pr e).2
  | (_, .tak _) :: ps, i, pr => ((i, 0), ⟨[], .own i⟩) :: iniT ps (i + 1) fun e => (pr e).2
def iniR : (ps : List (Kt × PM)) → Nat → (E → HL (ps.map (·.1))) → List (Nat × (Gs × Option (Root E)))
  | [], _, _ => []
  | (_, .val) :: ps, i, pr => iniR ps (i + 1) fun e => (pr e).2
  | (k, .mut m) :: ps, i, pr => (i, ([], some ⟨k, m, 0, fun e => (pr e).1⟩)) :: iniR ps (i + 1) fun e => (pr e).2
  | (k, .tak m) :: ps, i, pr => (i, ([], some ⟨k, m, 0, fun e => (pr e).1⟩)) :: iniR ps (i + 1) fun e => (pr e).2
end
def iniS (ps : List (Kt × PM)) : Lst (HL (ps.map (·.1))) := ⟨iniT ps 0 id, iniR ps 0 id, ps.length⟩

theorem args_ok {E : Type} {w : World} {S : Nat → Prop} {e : E} : ∀ (ps : List (Kt × PM)) (i : Nat) (pr : E → HL (ps.map (·.1))) (vs : List Value) (F : List Nat), ArgsR w S ps (pr e) vs F → F.Nodup →
    ∃ Fp : Nat → List Nat, vs.length = ps.length ∧ (∀ r b, b ∈ Fp r → b ∈ F ∧ i ≤ r) ∧ (∀ r, (Fp r).Nodup) ∧ (∀ r r', r ≠ r' → ∀ b ∈ Fp r, b ∉ Fp r') ∧
      (∀ r q, look r (iniR ps i pr) = some q → ∃ R v, q = ([], some R) ∧ i ≤ r ∧ vs[r - i]? = some v ∧ ∃ cs, Shows R.k v cs ∧ Rz w S R.k R.m (Fp r) (R.x e) cs) ∧ (∀ r, look r (iniR ps i pr) = none → Fp r = []) ∧
      (∀ q sl, look q (iniT ps i pr) = some sl → sl.gs = [] ∧ q.2 = 0 ∧ i ≤ q.1 ∧ ∃ v, vs[q.1 - i]? = some v ∧ ((∃ k x, sl.ent = .val k x ∧ ∃ cs, Shows k v cs ∧ Rz w S k .sh [] (x e) cs) ∨ (sl.ent = .own q.1 ∧ ∃ q', look q.1 (iniR ps i pr) = some q')))
  | [], i, pr, vs, F, h, hn => by
    obtain ⟨rfl, rfl⟩ := h
    exact ⟨fun _ => [], rfl, by simp, by simp, by simp, by simp [iniR, look], by simp, by simp [iniT, look]⟩
  | (k, .val) :: ps, i, pr, vs, F, h, hn => by
    obtain ⟨v, vs', rfl, h1, h2⟩ := h
    obtain ⟨Fp, a1, a2, a3, a4, a5, a6, a7⟩ := args_ok ps (i + 1) (fun e => (pr e).2) vs' F h2 hn
    refine ⟨Fp, by simp [a1], fun r b hb => ⟨(a2 r b hb).1, by have := (a2 r b hb).2; omega⟩, a3, a4, fun r q hq => ?_, a6, fun q sl hq => ?_⟩
    · obtain ⟨R, u, b1, b2, b3, b4⟩ := a5 r q hq
      refine ⟨R, u, b1, by omega, ?_, b4⟩
      have : r - i = (r - (i + 1)) + 1 := by omega
      rw [this]; simpa using b3
    · simp only [iniT, look] at hq
      split at hq
      · rename_i hqi
        subst hqi
        obtain rfl := Option.some.inj hq
        exact ⟨rfl, rfl, Nat.le_refl _, v, by simp, .inl ⟨k, _, rfl, h1⟩⟩
      · obtain ⟨b1, b2, b3, u, b4, b5⟩ := a7 q sl hq
        refine ⟨b1, b2, by omega, u, ?_, b5⟩
        have : q.1 - i = (q.1 - (i + 1)) + 1 := by omega
        rw [this]; simpa using b4
  | (k, .mut m) :: ps, i, pr, vs, F, h, hn => by
    obtain ⟨v, vs', F1, F2, rfl, rfl, h1, h2⟩ := h
    rw [List.nodup_append] at hn
    obtain ⟨n1, n2, n3⟩ := hn
    obtain ⟨Fp, a1, a2, a3, a4, a5, a6, a7⟩ := args_ok ps (i + 1) (fun e => (pr e).2) vs' F2 h2 n2
    have hne : ∀ r, r ≠ i → upd Fp i F1 r = Fp r := fun r hr => upd_ne _ _ hr
    refine ⟨upd Fp i F1, by simp [a1], fun r b hb => ?_, fun r => ?_, fun r r' hrr b hb hb' => ?_, fun r q hq => ?_, fun r hr => ?_, fun q sl hq => ?_⟩
    · by_cases hr : r = i
      · subst hr; rw [upd_same] at hb; exact ⟨List.mem_append_left _ hb, Nat.le_refl _⟩
      · rw [hne r hr] at hb
        exact ⟨List.mem_append_right _ (a2 r b hb).1, by have := (a2 r b hb).2; omega⟩
    · by_cases hr : r = i
      · subst hr; rw [upd_same]; exact n1
      · rw [hne r hr]; exact a3 r
    · by_cases hr : r = i
      · subst hr
        rw [upd_same] at hb
        rw [hne r' fun e => hrr e.symm] at hb'
        exact n3 b hb b (a2 r' b hb').1 rfl
      · rw [hne r hr] at hb
        by_cases hr' : r' = i
        · subst hr'
          rw [upd_same] at hb'
          exact n3 b hb' b (a2 r b hb).1 rfl
        · rw [hne r' hr'] at hb'
          exact a4 r r' hrr b hb hb'
    · simp only [iniR, look] at hq
      split at hq
      · rename_i hri
        subst hri
        obtain rfl := Option.some.inj hq
        exact ⟨_, v, rfl, Nat.le_refl _, by simp, by rw [upd_same]; exact h1⟩
      · rename_i hri
        obtain ⟨R, u, b1, b2, b3, b4⟩ := a5 r q hq
        refine ⟨R, u, b1, by omega, ?_, by rw [hne r hri]; exact b4⟩
        have : r - i = (r - (i + 1)) + 1 := by omega
        rw [this]; simpa using b3
    · simp only [iniR, look] at hr
      split at hr
      · cases hr
      · rename_i hri
        rw [hne r hri]; exact a6 r hr
    · simp only [iniT, look] at hq
      split at hq
      · rename_i hqi
        subst hqi
        obtain rfl := Option.some.inj hq
        exact ⟨rfl, rfl, Nat.le_refl _, v, by simp, .inr ⟨rfl, by simp [iniR, look]⟩⟩
      · obtain ⟨b1, b2, b3, u, b4, b5⟩ := a7 q sl hq
        refine ⟨b1, b2, by omega, u, ?_, ?_⟩
        · have : q.1 - i = (q.1 - (i + 1)) + 1 := by omega
          rw [this]; simpa using b4
        · rcases b5 with b5 | ⟨b5, q', b6⟩
          · exact .inl b5
          · refine .inr ⟨b5, q', ?_⟩
            simp only [iniR, look]
            rw [if_neg (by omega)]
            exact b6
  | (k, .tak m) :: ps, i, pr, vs, F, h, hn => by
    obtain ⟨v, vs', F1, F2, rfl, rfl, h1, h2⟩ := h
    rw [List.nodup_append] at hn
    obtain ⟨n1, n2, n3⟩ := hn
    obtain ⟨Fp, a1, a2, a3, a4, a5, a6, a7⟩ := args_ok ps (i + 1) (fun e => (pr e).2) vs' F2 h2 n2
    have hne : ∀ r, r ≠ i → upd Fp i F1 r = Fp r := fun r hr => upd_ne _ _ hr
    refine ⟨upd Fp i F1, by simp [a1], fun r b hb => ?_, fun r => ?_, fun r r' hrr b hb hb' => ?_, fun r q hq => ?_, fun r hr => ?_, fun q sl hq => ?_⟩
    · by_cases hr : r = i
      · subst hr; rw [upd_same] at hb; exact ⟨List.mem_append_left _ hb, Nat.le_refl _⟩
      · rw [hne r hr] at hb
        exact ⟨List.mem_append_right _ (a2 r b hb).1, by have := (a2 r b hb).2; omega⟩
    · by_cases hr : r = i
      · subst hr; rw [upd_same]; exact n1
      · rw [hne r hr]; exact a3 r
    · by_cases hr : r = i
      · subst hr
        rw [upd_same] at hb
        rw [hne r' fun e => hrr e.symm] at hb'
        exact n3 b hb b (a2 r' b hb').1 rfl
      · rw [hne r hr] at hb
        by_cases hr' : r' = i
        · subst hr'
          rw [upd_same] at hb'
          exact n3 b hb' b (a2 r b hb).1 rfl
        · rw [hne r' hr'] at hb'
          exact a4 r r' hrr b hb hb'
    · simp only [iniR, look] at hq
      split at hq
      · rename_i hri
        subst hri
        obtain rfl := Option.some.inj hq
        exact ⟨_, v, rfl, Nat.le_refl _, by simp, by rw [upd_same]; exact h1⟩
      · rename_i hri
        obtain ⟨R, u, b1, b2, b3, b4⟩ := a5 r q hq
        refine ⟨R, u, b1, by omega, ?_, by rw [hne r hri]; exact b4⟩
        have : r - i = (r - (i + 1)) + 1 := by omega
        rw [this]; simpa using b3
    · simp only [iniR, look] at hr
      split at hr
      · cases hr
      · rename_i hri
        rw [hne r hri]; exact a6 r hr
    · simp only [iniT, look] at hq
      split at hq
      · rename_i hqi
        subst hqi
        obtain rfl := Option.some.inj hq
        exact ⟨rfl, rfl, Nat.le_refl _, v, by simp, .inr ⟨rfl, by simp [iniR, look]⟩⟩
      · obtain ⟨b1, b2, b3, u, b4, b5⟩ := a7 q sl hq
        refine ⟨b1, b2, by omega, u, ?_, ?_⟩
        · have : q.1 - i = (q.1 - (i + 1)) + 1 := by omega
          rw [this]; simpa using b4
        · rcases b5 with b5 | ⟨b5, q', b6⟩
          · exact .inl b5
          · refine .inr ⟨b5, q', ?_⟩
            simp only [iniR, look]
            rw [if_neg (by omega)]
            exact b6

theorem ini_ok {Gl : World → Prop} {ps : List (Kt × PM)} {d : HL (ps.map (·.1))} {w : World} {S : Nat → Prop} {vs : List Value} {F : List Nat} (hgl : ∀ w', Fr w w' (· ∈ F) → Gl w') (h : ArgsR w S ps d vs F) (hn : F.Nodup) (hS : ∀ b ∈ F, ¬ S b) {nt np : Nat} (hnt : ps.length ≤ nt) :
    GSat ⟨w, S, (· ∈ F), (np, nt), vs, Gl, hgl⟩ ((iniS ps).gr d) ⟨vs.toArray ++ Array.replicate (nt - vs.toArray.size) undef, []⟩ w := by
  obtain ⟨Fp, a1, a2, a3, a4, a5, a6, a7⟩ := args_ok (e := d) ps 0 id vs F h hn
  have hSh : ∀ b, S b → Cx.Sh ⟨w, S, (· ∈ F), (np, nt), vs, Gl, hgl⟩ Fp b := fun b hb => ⟨.inl hb, fun r hr => hS b (a2 r b hr).1 hb⟩
  have keep : ∀ {k : Kt} {m : Mk} {F' : List Nat} {x : k.T} {cs : List Value}, Rz w S k m F' x cs → Rz w (Cx.Sh ⟨w, S, (· ∈ F), (np, nt), vs, Gl, hgl⟩ Fp) k m F' x cs := fun hz => Rz_keep ⟨Nat.le_refl _, fun b hb _ => ⟨rfl, hSh b hb⟩⟩ _ _ _ _ _ (fun _ _ => rfl) hz
  have htm : ∀ i v, vs[i]? = some v → (vs.toArray ++ Array.replicate (nt - vs.toArray.size) undef)[i]? = some v := fun i v hv => by
    have hlt := (List.getElem?_eq_some_iff.1 hv).1
    rw [Array.getElem?_append, if_pos (by simpa using hlt)]
    simpa using hv
  refine ⟨rfl, ⟨?_, fun i v hi hv => htm i v hv⟩, fun r => vs.getD r undef, Fp, ⟨rfl, rfl, rfl, Nat.le_refl _, fun b _ _ => rfl, fun r R hr => ?_, fun r hr => ?_, a3, a4, fun r b hb => .inl (a2 r b hb).1⟩, fun t i ent he => ?_⟩
  · simp; omega
  · rw [gr_rt] at hr
    split at hr <;> try (cases hr; done)
    rename_i q hq
    obtain ⟨R', v, rfl, _, b3, cs, b4, b5⟩ := a5 r q hq
    have : R = R'.ev d := by
      have := Option.some.inj hr
      exact (Option.some.inj this).symm
    subst this
    refine ⟨cs, ?_, keep b5⟩
    have : vs.getD r undef = v := by simpa [List.getD] using congrArg (·.getD undef) b3
    show Shows _ (vs.getD r undef) cs
    rw [this]; exact b4
  · cases hq : look r (iniS ps).rt with
    | none => exact a6 r hq
    | some q =>
      obtain ⟨R', v, rfl, _⟩ := a5 r q hq
      refine absurd ?_ (hr (R'.ev d))
      rw [gr_rt, hq]; rfl
  · rw [gr_tm] at he
    split at he <;> try (cases he; done)
    rename_i sl hsl
    obtain ⟨b1, b2, _, v, b3, b4⟩ := a7 _ sl hsl
    have hon : (iniS ps).on sl.gs d = true := by rw [b1]; rfl
    rw [if_pos hon] at he
    obtain rfl := Option.some.inj he
    have b2 : i = 0 := b2
    subst b2
    refine ⟨v, v, htm t v b3, rfl, ?_⟩
    rcases b4 with ⟨k, x, b4, cs, b5, b6⟩ | ⟨b4, q', b5⟩
    · rw [b4]
      exact ⟨cs, b5, keep b6⟩
    · rw [b4]
      obtain ⟨R', v', rfl, _, b6, _⟩ := a5 _ q' b5
      refine ⟨some (R'.ev d), ?_, fun _ => ?_⟩
      · have b5' : look (t, 0).1 (iniS ps).rt = some ([], some R') := b5
        rw [gr_rt, b5']; rfl
      · show v = vs.getD t undef
        simpa [List.getD] using (congrArg (·.getD undef) b3).symm

end Go.Lift

namespace Go.Lift
set_option linter.unusedVariables false
set_option linter.unusedSimpArgs false

/-! ### A function: its results -/
def rtsR : (rs : List (Kt × RM)) → List ResultVar → List (Kt × Mk × (Nat × Nat)) → List (Kt × Mk × (Nat × Nat))
  | [], _, tl => tl
  | _ :: _, [], tl => tl
  | (k, .val) :: rs, .tmp t :: vs, tl => rtsR rs vs tl
  | (k, .own m) :: rs, .tmp t :: vs, tl => (k, m, (t, 0)) :: rtsR rs vs tl
  | (k, .val) :: rs, .cell t T :: vs, tl => (.ptr T k, .ow .sh, (t, 0)) :: rtsR rs vs tl
  | (k, .own m) :: rs, .cell t T :: vs, tl => (.ptr T k, .ow m, (t, 0)) :: rtsR rs vs tl
def tmsR : (rs : List (Kt × RM)) → List ResultVar → Nat → (Nat → List ((Nat × Nat) × EntS)) → List ((Nat × Nat) × EntS)
  | [], _, j, tl => tl j
  | _ :: _, [], j, tl => tl j
  | (k, .val) :: rs, .tmp t :: vs, j, tl => ((t, 0), .val k) :: tmsR rs vs j tl
  | (k, .own m) :: rs, .tmp t :: vs, j, tl => ((t, 0), .own j) :: tmsR rs vs (j + 1) tl
  | (k, .val) :: rs, .cell t T :: vs, j, tl => ((t, 0), .own j) :: tmsR rs vs (j + 1) tl
  | (k, .own m) :: rs, .cell t T :: vs, j, tl => ((t, 0), .own j) :: tmsR rs vs (j + 1) tl
def outR {tl : List (Kt × Mk × (Nat × Nat))} {tlt : Nat → List ((Nat × Nat) × EntS)} : (rs : List (Kt × RM)) → (vs : List ResultVar) → (j : Nat) → HL ((rtsR rs vs tl).map (·.1)) → HL (tkk (tmsR rs vs j tlt)) → HL (rs.map (·.1)) × HL (tl.map (·.1))
  | [], _, j, x, y => ((), x)
  | q :: rs, [], j, x, y => (HL.dflt ((q :: rs).map (·.1)), x)
  | (k, .val) :: rs, .tmp t :: vs, j, x, y => let q := outR (tl := tl) (tlt := tlt) rs vs j x y.2; ((y.1, q.1), q.2)
  | (k, .own m) :: rs, .tmp t :: vs, j, x, y => let q := outR (tl := tl) (tlt := tlt) rs vs (j + 1) x.2 y; ((x.1, q.1), q.2)
  | (k, .val) :: rs, .cell t T :: vs, j, x, y => let q := outR (tl := tl) (tlt := tlt) rs vs (j + 1) x.2 y; ((x.1, q.1), q.2)
  | (k, .own m) :: rs, .cell t T :: vs, j, x, y => let q := outR (tl := tl) (tlt := tlt) rs vs (j + 1) x.2 y; ((x.1, q.1), q.2)
def rtsM : (ps : List (Kt × PM)) → Nat → List (Kt × Mk × (Nat × Nat))
  | [], _ => []
  | (k, .val) :: ps, i => rtsM ps (i + 1)
  | (k, .tak m) :: ps, i => rtsM ps (i + 1)
  | (k, .mut m) :: ps, i => (k, m, (i, 0)) :: rtsM ps (i + 1)
def tmsM : (ps : List (Kt × PM)) → Nat → Nat → List ((Nat × Nat) × EntS)
  | [], _, _ => []
  | (k, .val) :: ps, i, j => tmsM ps (i + 1) j
  | (k, .tak m) :: ps, i, j => tmsM ps (i + 1) j
  | (k, .mut m) :: ps, i, j => ((i, 0), .own j) :: tmsM ps (i + 1) (j + 1)
def outM : (ps : List (Kt × PM)) → (i : Nat) → HL ((rtsM ps i).map (·.1)) → HL ((mutsOf ps).map (·.1))
  | [], _, x => ()
  | (k, .val) :: ps, i, x => outM ps (i + 1) x
  | (k, .tak m) :: ps, i, x => outM ps (i + 1) x
  | (k, .mut m) :: ps, i, x => (x.1, outM ps (i + 1) x.2)

def retShape (sig : Sig) (vs : List ResultVar) : Shape := ⟨rtsR sig.rs vs (rtsM sig.ps 0), tmsR sig.rs vs 0 (tmsM sig.ps 0)⟩
abbrev Sig.Out (sig : Sig) : Type := HL (sig.rs.map (·.1)) × HL ((mutsOf sig.ps).map (·.1))
def retOut (sig : Sig) (vs : List ResultVar) (d : (retShape sig vs).D) : sig.Out :=
  let q := outR (tl := rtsM sig.ps 0) (tlt := tmsM sig.ps 0) sig.rs vs 0 d.1 d.2
  (q.1, outM sig.ps 0 q.2)

def resChk (P : Program) : (rs : List (Kt × RM)) → List ResultVar → Bool
  | [], [] => true
  | _ :: rs, .tmp _ :: vs => resChk P rs vs
  | (k, _) :: rs, .cell _ T :: vs => tyOk P T k && decide (k.isAgg = true ∨ k.size = 1) && resChk P rs vs
  | _, _ => false
def nodupK : List ((Nat × Nat) × EntS) → Bool
  | [] => true
  | (q, _) :: l => l.all (fun q' => !(q'.1 == q)) && nodupK l

section
variable (cx : Cx) (a : Act) (w : World) (S : Nat → Prop) (V : Nat → Value) (Fp : Nat → List Nat)
def RtOk : (l : List (Kt × Mk × (Nat × Nat))) → Nat → HL (l.map (·.1)) → Prop
  | [], _, _ => True
  | (k, m, _) :: l, j, x => (∃ cs, Shows k (V j) cs ∧ Rz w S k m (Fp j) x.1 cs) ∧ RtOk l (j + 1) x.2
def TmOk : (l : List ((Nat × Nat) × EntS)) → HL (tkk l) → Prop
  | [], _ => True
  | (q, .val k) :: l, x => (q.2 = 0 → ∃ u, a.tmps[q.1]? = some u ∧ ∃ cs, Shows k u cs ∧ Rz w S k .sh [] x.1 cs) ∧ TmOk l x.2
  | (q, .own j) :: l, x => (q.2 = 0 → a.tmps[q.1]? = some (V j)) ∧ TmOk l x
  | (q, .place k) :: l, x => TmOk l x.2
end

section
variable {cx : Cx} {a : Act} {w : World} {S : Nat → Prop} {V : Nat → Value} {Fp : Nat → List Nat}
theorem unR_rt {E' : Type} {d : E'} : ∀ (l : List (Kt × Mk × (Nat × Nat))) (j : Nat) (pr : E' → HL (l.map (·.1))), (∀ i R, look i (unR l j pr) = some ([], some R) → ∃ cs, Shows R.k (V i) cs ∧ Rz w S R.k R.m (Fp i) (R.x d) cs) → RtOk w S V Fp l j (pr d)
  | [], j, pr, h => trivial
  | (k, m, q) :: l, j, pr, h => by
    refine ⟨h j _ (by simp only [unR, look]; rw [if_pos trivial]), unR_rt l (j + 1) (fun e => (pr e).2) fun i R hi => h i R ?_⟩
    simp only [unR, look]
    have : ∀ (l : List (Kt × Mk × (Nat × Nat))) (j : Nat) (pr : E' → HL (l.map (·.1))) q, look i (unR l j pr) = some q → j ≤ i := by
      intro l
      induction l with
      | nil => intro j pr q h; cases h
      | cons x l ih =>
        intro j pr q h
        obtain ⟨k, m, y⟩ := x
        simp only [unR, look] at h
        split at h
        · omega
        · have := ih (j + 1) _ q h; omega
    have := this l (j + 1) _ _ hi
    rw [if_neg (by omega)]
    exact hi
theorem unT_key {E' : Type} : ∀ (l : List ((Nat × Nat) × EntS)) (pr : E' → HL (tkk l)) q sl, look q (unT l pr) = some sl → ∃ x, (q, x) ∈ l
  | [], pr, q, sl, h => by cases h
  | (q', .val k) :: l, pr, q, sl, h => by
    simp only [unT, look] at h
    split at h
    · rename_i e; subst e; exact ⟨_, List.mem_cons_self ..⟩
    · obtain ⟨x, hx⟩ := unT_key l _ q sl h; exact ⟨x, List.mem_cons_of_mem _ hx⟩
  | (q', .own j) :: l, pr, q, sl, h => by
    simp only [unT, look] at h
    split at h
    · rename_i e; subst e; exact ⟨_, List.mem_cons_self ..⟩
    · obtain ⟨x, hx⟩ := unT_key l _ q sl h; exact ⟨x, List.mem_cons_of_mem _ hx⟩
  | (q', .place k) :: l, pr, q, sl, h => by
    simp only [unT, look] at h
    split at h
    · rename_i e; subst e; exact ⟨_, List.mem_cons_self ..⟩
    · obtain ⟨x, hx⟩ := unT_key l _ q sl h; exact ⟨x, List.mem_cons_of_mem _ hx⟩
theorem nodupK_ne {q : Nat × Nat} {x : EntS} {l : List ((Nat × Nat) × EntS)} (h : nodupK ((q, x) :: l) = true) : nodupK l = true ∧ ∀ q' x', (q', x') ∈ l → q' ≠ q := by
  simp only [nodupK, Bool.and_eq_true, List.all_eq_true] at h
  exact ⟨h.2, fun q' x' hq => by have := h.1 _ hq; simpa using this⟩
theorem unT_tm {E' : Type} {d : E'} : ∀ (l : List ((Nat × Nat) × EntS)) (pr : E' → HL (tkk l)), nodupK l = true →
    (∀ q sl, look q (unT l pr) = some sl → q.2 = 0 → ∃ u, a.tmps[q.1]? = some u ∧ match sl.ent with | .val k x => ∃ cs, Shows k u cs ∧ Rz w S k .sh [] (x d) cs | .own j => u = V j | _ => True) → TmOk a w S V l (pr d)
  | [], pr, hn, h => trivial
  | (q, .val k) :: l, pr, hn, h => by
    obtain ⟨n1, n2⟩ := nodupK_ne hn
    refine ⟨fun hq => ?_, unT_tm l (fun e => (pr e).2) n1 fun q' sl hq' => h q' sl ?_⟩
    · obtain ⟨u, h1, h2⟩ := h q _ (by simp only [unT, look]; rw [if_pos trivial]) hq
      exact ⟨u, h1, h2⟩
    · obtain ⟨x, hx⟩ := unT_key _ _ _ _ hq'
      simp only [unT, look]
      rw [if_neg (n2 _ _ hx)]
      exact hq'
  | (q, .own j) :: l, pr, hn, h => by
    obtain ⟨n1, n2⟩ := nodupK_ne hn
    refine ⟨fun hq => ?_, unT_tm l pr n1 fun q' sl hq' => h q' sl ?_⟩
    · obtain ⟨u, h1, h2⟩ := h q _ (by simp only [unT, look]; rw [if_pos trivial]) hq
      rw [h1]; exact congrArg some h2
    · obtain ⟨x, hx⟩ := unT_key _ _ _ _ hq'
      simp only [unT, look]
      rw [if_neg (n2 _ _ hx)]
      exact hq'
  | (q, .place k) :: l, pr, hn, h => by
    obtain ⟨n1, n2⟩ := nodupK_ne hn
    refine unT_tm l (fun e => (pr e).2) n1 fun q' sl hq' => h q' sl ?_
    obtain ⟨x, hx⟩ := unT_key _ _ _ _ hq'
    simp only [unT, look]
    rw [if_neg (n2 _ _ hx)]
    exact hq'

theorem unpack_all {sh : Shape} {d : sh.D} (hn : nodupK sh.tms = true) (hp : Pre cx ((unpack sh).gr d) a w V Fp) : RtOk w (cx.Sh Fp) V Fp sh.rts 0 d.1 ∧ TmOk a w (cx.Sh Fp) V sh.tms d.2 := by
  constructor
  · refine unR_rt (E' := sh.D) (d := d) sh.rts 0 Prod.fst fun i R hi => ?_
    have hi' : look i (unpack sh).rt = some ([], some R) := hi
    exact hp.mem.roots i (R.ev d) (by rw [gr_rt, hi']; rfl)
  · refine unT_tm (E' := sh.D) (d := d) sh.tms Prod.snd hn fun q sl hq h0 => ?_
    have hgs : ∀ (l : List ((Nat × Nat) × EntS)) (pr : sh.D → HL (tkk l)) q sl, look q (unT l pr) = some sl → sl.gs = [] := by
      intro l
      induction l with
      | nil => intro pr q sl h; cases h
      | cons x l ih =>
        intro pr q sl h
        obtain ⟨q', x⟩ := x
        cases x <;> simp only [unT, look] at h <;> split at h
        all_goals first | (obtain rfl := Option.some.inj h; rfl) | exact ih _ _ _ h
    have hq' : look q (unpack sh).tm = some sl := hq
    have hon : (unpack sh).on sl.gs d = true := by rw [hgs _ _ _ _ hq]; rfl
    obtain ⟨v, u, h1, h2, h3⟩ := hp.ents q.1 q.2 (sl.ent.ev d) (by rw [gr_tm, show look (q.1, q.2) (unpack sh).tm = some sl from hq']; simp only []; rw [if_pos hon])
    rw [h0] at h2
    obtain rfl := Option.some.inj h2
    refine ⟨v, h1, ?_⟩
    split
    · rename_i k x hx
      rw [hx] at h3
      exact h3
    · rename_i j hj
      rw [hj] at h3
      obtain ⟨R, g1, g2⟩ := h3
      refine g2 fun hR => ?_
      subst hR
      rw [gr_rt] at g1
      split at g1 <;> try (cases g1; done)
      rename_i q2 hq2
      split at g1 <;> try (cases g1; done)
      have : ∀ (l : List (Kt × Mk × (Nat × Nat))) (j0 : Nat) (pr : sh.D → HL (l.map (·.1))), look j (unR l j0 pr) = some q2 → ∃ R, q2 = ([], some R) := by
        intro l
        induction l with
        | nil => intro j0 pr h; cases h
        | cons x l ih =>
          intro j0 pr h
          obtain ⟨k, m, y⟩ := x
          simp only [unR, look] at h
          split at h
          · exact ⟨_, (Option.some.inj h).symm⟩
          · exact ih _ _ h
      obtain ⟨R, rfl⟩ := this _ _ _ hq2
      cases g1
    · trivial
end
end Go.Lift

namespace Go.Lift
set_option linter.unusedVariables false
set_option linter.unusedSimpArgs false

theorem ResR_keep {w : World} {S S' : Nat → Prop} (hS : ∀ b, S b → S' b) : ∀ (rs : List (Kt × RM)) (d : HL (rs.map (·.1))) (us : List Value) (F : List Nat), ResR w S rs d us F → ResR w S' rs d us F
  | [], d, us, F, h => h
  | (k, .val) :: rs, d, us, F, h => by
    obtain ⟨v, vs', rfl, ⟨cs, h1, h1'⟩, h2⟩ := h
    exact ⟨v, vs', rfl, ⟨cs, h1, Rz_keep ⟨Nat.le_refl _, fun b hb _ => ⟨rfl, hS b hb⟩⟩ _ _ _ _ _ (fun _ _ => rfl) h1'⟩, ResR_keep hS rs _ _ _ h2⟩
  | (k, .own m) :: rs, d, us, F, h => by
    obtain ⟨v, vs', F1, F2, rfl, rfl, ⟨cs, h1, h1'⟩, h2⟩ := h
    exact ⟨v, vs', F1, F2, rfl, rfl, ⟨cs, h1, Rz_keep ⟨Nat.le_refl _, fun b hb _ => ⟨rfl, hS b hb⟩⟩ _ _ _ _ _ (fun _ _ => rfl) h1'⟩, ResR_keep hS rs _ _ _ h2⟩
theorem MutR_keep {w : World} {S S' : Nat → Prop} (hS : ∀ b, S b → S' b) : ∀ (ps : List (Kt × PM)) (d : HL ((mutsOf ps).map (·.1))) (us : List Value) (F : List Nat), MutR w S ps d us F → MutR w S' ps d us F
  | [], d, us, F, h => h
  | (k, .val) :: ps, d, us, F, h => by
    obtain ⟨v, vs', rfl, h2⟩ := h
    exact ⟨v, vs', rfl, MutR_keep hS ps _ _ _ h2⟩
  | (k, .tak m) :: ps, d, us, F, h => by
    obtain ⟨v, vs', rfl, h2⟩ := h
    exact ⟨v, vs', rfl, MutR_keep hS ps _ _ _ h2⟩
  | (k, .mut m) :: ps, d, us, F, h => by
    obtain ⟨v, vs', F1, F2, rfl, rfl, ⟨cs, h1, h1'⟩, h2⟩ := h
    exact ⟨v, vs', F1, F2, rfl, rfl, ⟨cs, h1, Rz_keep ⟨Nat.le_refl _, fun b hb _ => ⟨rfl, hS b hb⟩⟩ _ _ _ _ _ (fun _ _ => rfl) h1'⟩, MutR_keep hS ps _ _ _ h2⟩

def resGet (tmps : Array Value) : ResultVar → Sem Value
  | .tmp t => pure (tmps.getD t undef)
  | .cell a t => do loadVar t (← asAddr (tmps.getD a undef))

theorem results_list {P : Program} {fn : Func} {tmps : Array Value} {w : World} {us : List Value} (h : (fn.results.toList.mapM (resGet tmps)).run P w = .ok us w) : (results fn tmps).run P w = .ok (tup us) w := by
  have e : (fn.results.mapM (resGet tmps)).run P w = .ok us.toArray w := by
    rw [Array.mapM_eq_mapM_toList]
    simp [h]
  have e2 : results fn tmps = (fn.results.mapM (resGet tmps)) >>= fun vs => pure (if h : vs.size = 1 then vs[0] else .tuple vs) := rfl
  rw [e2]
  simp only [Sem.run_bind, e]
  match us with
  | [] => simp [tup]
  | [v] => simp [tup]
  | v :: u :: l => simp [tup]

theorem run_loadVar {P : Program} {w : World} {t : TypeId} {k : Kt} (ht : tyOk P t k = true) {b : Nat} {cs : List Value} (hc : CellsAt w b 0 cs) (hl : cs.length = k.size) (hk : k.isAgg = false → k.size = 1) :
    ∃ v, (loadVar t ⟨b, 0, none⟩).run P w = .ok v w ∧ Shows k v cs := by
  cases ha : k.isAgg with
  | true =>
    refine ⟨.agg cs.toArray, ?_, by simp [Shows, ha]⟩
    simp [loadVar, run_isAgg ht, ha, run_sizeOf' ht, run_loadCells' b 0 cs hc hl]
  | false =>
    rw [hk ha] at hl
    match cs, hl with
    | [v], _ =>
      refine ⟨v, ?_, by simp [Shows, ha]⟩
      have := hc 0 v rfl
      simp at this
      simp [loadVar, run_isAgg ht, ha, this]

section
variable {a : Act} {w : World} {S : Nat → Prop} {V : Nat → Value} {Fp : Nat → List Nat}

theorem cell_res {P : Program} {k : Kt} {m : Mk} {T : TypeId} {t : Nat} {x : k.T} {v : Value} {F : List Nat} (hT : tyOk P T k = true) (hk : k.isAgg = true ∨ k.size = 1) (h : ∃ cs, Shows (.ptr T k) v cs ∧ Rz w S (.ptr T k) (.ow m) F x cs) (ht : a.tmps[t]? = some v) :
    ∃ u, (resGet a.tmps (.cell t T)).run P w = .ok u w ∧ ∃ F', (∀ b ∈ F', b ∈ F) ∧ (F.Nodup → F'.Nodup) ∧ ∃ cs, Shows k u cs ∧ Rz w S k m F' x cs := by
  obtain ⟨cs, hs, g, C, Fe, h1, rfl, hh, hz⟩ := h
  have hs : cs = [v] := hs
  subst hs
  have h1 : v = .pointer (some ⟨g, 0, none⟩) := (List.cons.inj h1).1
  subst h1
  have hlen := Rz_len _ _ _ _ _ _ _ hz
  have hc : CellsAt w g 0 C.toList := fun j v hj => by
    have : w.cell? ⟨g, 0 + j, none⟩ = C[0 + j]? := cell_of_block hh
    rw [this, Nat.zero_add]
    simpa using hj
  obtain ⟨u, h2, h3⟩ := run_loadVar hT hc hlen fun h => hk.resolve_left (by rw [h]; simp)
  refine ⟨u, ?_, Fe, fun b hb => List.mem_cons_of_mem _ hb, fun hn => (List.nodup_cons.1 hn).2, C.toList, h3, hz⟩
  have e : a.tmps.getD t undef = .pointer (some ⟨g, 0, none⟩) := by simp [Array.getD_eq_getD_getElem?, ht]
  simp [resGet, e, asAddr, h2]

/-- **What is returned.** -/
theorem res_ok {P : Program} (hd : ∀ r r', r ≠ r' → ∀ b ∈ Fp r, b ∉ Fp r') (hn : ∀ r, (Fp r).Nodup) {tl : List (Kt × Mk × (Nat × Nat))} {tlt : Nat → List ((Nat × Nat) × EntS)} : ∀ (rs : List (Kt × RM)) (vs : List ResultVar) (j : Nat) (x : HL ((rtsR rs vs tl).map (·.1))) (y : HL (tkk (tmsR rs vs j tlt))),
    resChk P rs vs = true → RtOk w S V Fp (rtsR rs vs tl) j x → TmOk a w S V (tmsR rs vs j tlt) y →
      ∃ us F j' y', (vs.mapM (resGet a.tmps)).run P w = .ok us w ∧ ResR w S rs (outR (tl := tl) (tlt := tlt) rs vs j x y).1 us F ∧ (∀ b ∈ F, ∃ i, j ≤ i ∧ i < j' ∧ b ∈ Fp i) ∧ F.Nodup ∧ j ≤ j' ∧ RtOk w S V Fp tl j' (outR (tl := tl) (tlt := tlt) rs vs j x y).2 ∧ TmOk a w S V (tlt j') y'
  | [], [], j, x, y, hc, hr, ht => ⟨[], [], j, y, by simp, ⟨rfl, rfl⟩, by simp, List.nodup_nil, Nat.le_refl _, hr, ht⟩
  | [], _ :: _, j, x, y, hc, hr, ht => by simp [resChk] at hc
  | _ :: _, [], j, x, y, hc, hr, ht => by simp [resChk] at hc
  | (k, .val) :: rs, .tmp t :: vs, j, x, y, hc, hr, ht => by
    obtain ⟨us, F, j', y', h1, h2, h3, h4, h5, h6, h7⟩ := res_ok hd hn rs vs j x y.2 (by simpa [resChk] using hc) hr ht.2
    obtain ⟨u, g1, g2⟩ := ht.1 rfl
    have e : a.tmps.getD t undef = u := by simp [Array.getD_eq_getD_getElem?, g1]
    exact ⟨u :: us, F, j', y', by simp [resGet, e, h1], ⟨u, us, rfl, g2, h2⟩, h3, h4, h5, h6, h7⟩
  | (k, .own m) :: rs, .tmp t :: vs, j, x, y, hc, hr, ht => by
    obtain ⟨us, F, j', y', h1, h2, h3, h4, h5, h6, h7⟩ := res_ok hd hn rs vs (j + 1) x.2 y (by simpa [resChk] using hc) hr.2 ht.2
    have g1 : a.tmps[t]? = some (V j) := ht.1 rfl
    have e : a.tmps.getD t undef = V j := by simp [Array.getD_eq_getD_getElem?, g1]
    refine ⟨V j :: us, Fp j ++ F, j', y', by simp [resGet, e, h1], ⟨V j, us, _, _, rfl, rfl, hr.1, h2⟩, fun b hb => ?_, List.nodup_append.2 ⟨hn j, h4, fun b hb c hc' e => ?_⟩, by omega, h6, h7⟩
    · rcases List.mem_append.1 hb with hb | hb
      · exact ⟨j, Nat.le_refl _, by omega, hb⟩
      · obtain ⟨i, i1, i2, i3⟩ := h3 b hb; exact ⟨i, by omega, i2, i3⟩
    · subst e
      obtain ⟨i, i1, i2, i3⟩ := h3 b hc'
      exact hd j i (by omega) b hb i3
  | (k, .val) :: rs, .cell t T :: vs, j, x, y, hc, hr, ht => by
    simp only [resChk, Bool.and_eq_true, decide_eq_true_eq] at hc
    obtain ⟨us, F, j', y', h1, h2, h3, h4, h5, h6, h7⟩ := res_ok hd hn rs vs (j + 1) x.2 y hc.2 hr.2 ht.2
    obtain ⟨u, g1, F', g2, g3, cs, g4, g5⟩ := cell_res hc.1.1 hc.1.2 hr.1 (ht.1 rfl)
    have hF : F' = [] := (Rz_free _ .sh _ _ _ rfl g5).1
    subst hF
    refine ⟨u :: us, F, j', y', by simp [g1, h1], ⟨u, us, rfl, ⟨cs, g4, g5⟩, h2⟩, fun b hb => ?_, h4, by omega, h6, h7⟩
    obtain ⟨i, i1, i2, i3⟩ := h3 b hb; exact ⟨i, by omega, i2, i3⟩
  | (k, .own m) :: rs, .cell t T :: vs, j, x, y, hc, hr, ht => by
    simp only [resChk, Bool.and_eq_true, decide_eq_true_eq] at hc
    obtain ⟨us, F, j', y', h1, h2, h3, h4, h5, h6, h7⟩ := res_ok hd hn rs vs (j + 1) x.2 y hc.2 hr.2 ht.2
    obtain ⟨u, g1, F', g2, g3, cs, g4, g5⟩ := cell_res hc.1.1 hc.1.2 hr.1 (ht.1 rfl)
    refine ⟨u :: us, F' ++ F, j', y', by simp [g1, h1], ⟨u, us, F', F, rfl, rfl, ⟨cs, g4, g5⟩, h2⟩, fun b hb => ?_, List.nodup_append.2 ⟨g3 (hn j), h4, fun b hb c hc' e => ?_⟩, by omega, h6, h7⟩
    · rcases List.mem_append.1 hb with hb | hb
      · exact ⟨j, Nat.le_refl _, by omega, g2 b hb⟩
      · obtain ⟨i, i1, i2, i3⟩ := h3 b hb; exact ⟨i, by omega, i2, i3⟩
    · subst e
      obtain ⟨i, i1, i2, i3⟩ := h3 b hc'
      exact hd j i (by omega) b (g2 b hb) i3

theorem mut_ok (hd : ∀ r r', r ≠ r' → ∀ b ∈ Fp r, b ∉ Fp r') (hn : ∀ r, (Fp r).Nodup) : ∀ (ps : List (Kt × PM)) (i j : Nat) (x : HL ((rtsM ps i).map (·.1))) (y : HL (tkk (tmsM ps i j))) (vs : List Value), vs.length = ps.length → (mutsOf ps = [] ∨ ∀ n v, vs[n]? = some v → a.tmps[i + n]? = some v) →
    RtOk w S V Fp (rtsM ps i) j x → TmOk a w S V (tmsM ps i j) y → ∃ F, MutR w S ps (outM ps i x) vs F ∧ (∀ b ∈ F, ∃ n, j ≤ n ∧ b ∈ Fp n) ∧ F.Nodup
  | [], i, j, x, y, vs, hl, hv, hr, ht => ⟨[], rfl, by simp, List.nodup_nil⟩
  | (k, .val) :: ps, i, j, x, y, vs, hl, hv, hr, ht => by
    match vs, hl with
    | v :: vs, hl =>
      obtain ⟨F, h1, h2, h3⟩ := mut_ok hd hn ps (i + 1) j x y vs (by simpa using hl) (hv.imp (fun h => h) fun hv n u hu => by have := hv (n + 1) u (by simpa using hu); rw [← this]; congr 1; omega) hr ht
      exact ⟨F, ⟨v, vs, rfl, h1⟩, h2, h3⟩
  | (k, .tak m) :: ps, i, j, x, y, vs, hl, hv, hr, ht => by
    match vs, hl with
    | v :: vs, hl =>
      obtain ⟨F, h1, h2, h3⟩ := mut_ok hd hn ps (i + 1) j x y vs (by simpa using hl) (hv.imp (fun h => h) fun hv n u hu => by have := hv (n + 1) u (by simpa using hu); rw [← this]; congr 1; omega) hr ht
      exact ⟨F, ⟨v, vs, rfl, h1⟩, h2, h3⟩
  | (k, .mut m) :: ps, i, j, x, y, vs, hl, hv, hr, ht => by
    match vs, hl with
    | v :: vs, hl =>
      have hv := hv.resolve_left (by simp [mutsOf])
      obtain ⟨F, h1, h2, h3⟩ := mut_ok hd hn ps (i + 1) (j + 1) x.2 y vs (by simpa using hl) (.inr fun n u hu => by have := hv (n + 1) u (by simpa using hu); rw [← this]; congr 1; omega) hr.2 ht.2
      have e : v = V j := by
        have g1 : a.tmps[i]? = some (V j) := ht.1 rfl
        have := hv 0 v rfl
        rw [Nat.add_zero, g1] at this
        exact (Option.some.inj this).symm
      refine ⟨Fp j ++ F, ⟨v, vs, Fp j, F, rfl, rfl, by rw [e]; exact hr.1, h1⟩, fun b hb => ?_, List.nodup_append.2 ⟨hn j, h3, fun b hb c hc' e => ?_⟩⟩
      · rcases List.mem_append.1 hb with hb | hb
        · exact ⟨j, Nat.le_refl _, hb⟩
        · obtain ⟨n, n1, n2⟩ := h2 b hb; exact ⟨n, by omega, n2⟩
      · subst e
        obtain ⟨n, n1, n2⟩ := h2 b hc'
        exact hd j n (by omega) b hb n2
end

/-! ### The whole function -/
def keepN (ps : List (Kt × PM)) : Nat := if (mutsOf ps).isEmpty then 0 else ps.length
def c_fn (P : Program) (tab : Tab) (fn : Func) (sig : Sig) (hi : Hint) : Option (Nat → HL (sig.ps.map (·.1)) → Option sig.Out) := match fn.body with
  | none => none
  | some c =>
    if decide (sig.ps.length ≤ fn.ntmps) && resChk P sig.rs fn.results.toList && nodupK (retShape sig fn.results.toList).tms then
      match c_code P tab (keepN sig.ps, fn.ntmps) sig.Out c [(none, retShape sig fn.results.toList)] hi (iniS sig.ps) with
      | none => none
      | some cr => match c_into (R := sig.Out) cr.nrm cr.s' (retShape sig fn.results.toList) with
        | none => none
        | some f => some fun k d => cr.den k (fun x => some (retOut sig fn.results.toList x), ()) (f fun x => some (retOut sig fn.results.toList x)) d
    else none

theorem c_fn_ok {P : Program} {Gl : World → Prop} {tab : Tab} (hm : P.follows .mixedOrders = true) (htab : ∀ f sp, (f, sp) ∈ tab.fs → FnOk P Gl f sp) {f : FuncId} {fn : Func} (hf : P.funcs[f]? = some fn) {sig : Sig} {hi : Hint} {den : Nat → HL (sig.ps.map (·.1)) → Option sig.Out}
    (h : c_fn P tab fn sig hi = some den) : FnOk P Gl f ⟨sig, den⟩ := by
  unfold c_fn at h
  split at h <;> try (cases h; done)
  rename_i c hc
  split at h <;> try (cases h; done)
  rename_i hchk
  simp only [Bool.and_eq_true, decide_eq_true_eq] at hchk
  split at h <;> try (cases h; done)
  rename_i cr hcr
  split at h <;> try (cases h; done)
  rename_i fi hfi
  obtain rfl := Option.some.inj h
  intro k d r hr w S vs F hgl hargs hn hS
  refine calls_of_wp hf hc ?_
  have hlen : vs.length = sig.ps.length := by
    obtain ⟨_, h1, _⟩ := args_ok (e := d) sig.ps 0 id vs F hargs hn
    exact h1
  have hini := ini_ok hgl hargs hn hS (nt := fn.ntmps) (np := keepN sig.ps) hchk.1.1
  have post : ∀ (x : (retShape sig fn.results.toList).D) (a' : Act) (w' : World), some (retOut sig fn.results.toList x) = some r → GSat ⟨w, S, (· ∈ F), (keepN sig.ps, fn.ntmps), vs, Gl, hgl⟩ ((unpack (retShape sig fn.results.toList)).gr x) a' w' →
      a'.defers = [] ∧ ∃ v, (results fn a'.tmps).run P w' = .ok v w' ∧ ∃ us Fr' Fm, Ending.returned v = .returned (tup us) ∧ Fr w w' (· ∈ F) ∧ (Fr' ++ Fm).Nodup ∧ (∀ b ∈ Fr' ++ Fm, b ∈ F ∨ w.heap.size ≤ b) ∧
        ResR w' (After S F w.heap.size (Fr' ++ Fm)) sig.rs r.1 us Fr' ∧ MutR w' (After S F w.heap.size (Fr' ++ Fm)) sig.ps r.2 vs Fm := by
    intro x a' w' hx hs
    obtain ⟨V, Fp, hp⟩ := hs.pre
    obtain ⟨hrt, htm⟩ := unpack_all hchk.2 hp
    obtain ⟨us, Fr', j', y', h1, h2, h3, h4, h5, h6, h7⟩ := res_ok (P := P) hp.mem.disj hp.mem.nodup sig.rs fn.results.toList 0 x.1 x.2 hchk.1.2 hrt htm
    obtain ⟨Fm, m1, m2, m3⟩ := mut_ok hp.mem.disj hp.mem.nodup sig.ps 0 j' _ y' vs hlen (by
      cases hmu : mutsOf sig.ps with
      | nil => exact .inl rfl
      | cons q l =>
        refine .inr fun n v hv => ?_
        rw [Nat.zero_add]
        refine hp.size.2 n v ?_ hv
        have := (List.getElem?_eq_some_iff.1 hv).1
        show n < keepN sig.ps
        unfold keepN
        rw [hmu]
        simp only [List.isEmpty_cons, Bool.false_eq_true, if_false]
        omega) h6 h7
    have hx := Option.some.inj hx
    have hall : ∀ b ∈ Fr' ++ Fm, ∃ i, b ∈ Fp i := fun b hb => by
      rcases List.mem_append.1 hb with hb | hb
      · obtain ⟨i, _, _, h⟩ := h3 b hb; exact ⟨i, h⟩
      · obtain ⟨i, _, h⟩ := m2 b hb; exact ⟨i, h⟩
    have hSh : ∀ b, Cx.Sh ⟨w, S, (· ∈ F), (keepN sig.ps, fn.ntmps), vs, Gl, hgl⟩ Fp b → After S F w.heap.size (Fr' ++ Fm) b := fun b hb => ⟨hb.1, fun h => by
      obtain ⟨i, hi⟩ := hall b h
      exact hb.2 i hi⟩
    refine ⟨hp.defers, tup us, results_list h1, us, Fr', Fm, rfl, ⟨hp.mem.os, hp.mem.tape, hp.mem.output, hp.mem.size, hp.mem.frame⟩, List.nodup_append.2 ⟨h4, m3, fun b hb c hc' e => ?_⟩, fun b hb => ?_, ?_, ?_⟩
    · subst e
      obtain ⟨i, _, i2, i3⟩ := h3 b hb
      obtain ⟨i', i4, i5⟩ := m2 b hc'
      exact hp.mem.disj i i' (by omega) b i3 i5
    · obtain ⟨i, hi⟩ := hall b hb
      exact hp.mem.own i b hi
    · rw [← hx]; exact ResR_keep hSh _ _ _ _ h2
    · rw [← hx]; exact MutR_keep hSh _ _ _ _ m1
  refine c_code_ok hm htab c _ hi (iniS sig.ps) cr hcr k (_, ()) _ d r hr ⟨w, S, (· ∈ F), (keepN sig.ps, fn.ntmps), vs, Gl, hgl⟩ _ w _ rfl rfl hini (fun e' a' w' hK hs => ?_) fun id sh h' hat x a' w' hx hs => ?_
  · obtain ⟨x, h1, h2⟩ := c_into_ok hfi hK
    exact post x a' w' h1 (h2 _ _ _ hs)
  · cases hat with
    | here => exact post x a' w' hx hs
    | there hne hat => cases hat

/-! ### A function that calls itself -/
def recN {A B : Type} (F : (Nat → A → Option B) → Nat → A → Option B) : Nat → A → Option B
  | 0, _ => none
  | n + 1, a => F (fun _ => recN F n) (n + 1) a

theorem c_rec_ok {P : Program} {Gl : World → Prop} {tab : Tab} (hm : P.follows .mixedOrders = true) (htab : ∀ f sp, (f, sp) ∈ tab.fs → FnOk P Gl f sp) {f : FuncId} {fn : Func} (hf : P.funcs[f]? = some fn) {sig : Sig} {hi : Hint}
    {F : (Nat → HL (sig.ps.map (·.1)) → Option sig.Out) → Nat → HL (sig.ps.map (·.1)) → Option sig.Out} (h : ∀ den, c_fn P ⟨(f, ⟨sig, den⟩) :: tab.fs, tab.ks⟩ fn sig hi = some (F den)) : FnOk P Gl f ⟨sig, recN F⟩ := by
  have key : ∀ n, FnOk P Gl f ⟨sig, fun _ => recN F n⟩ := by
    intro n
    induction n with
    | zero => intro k d r hr; cases hr
    | succ n ih =>
      have := c_fn_ok (Gl := Gl) hm (tab := ⟨(f, ⟨sig, fun _ => recN F n⟩) :: tab.fs, tab.ks⟩) (fun g sp hg => by
        rcases List.mem_cons.1 hg with e | hg
        · obtain ⟨rfl, rfl⟩ := Prod.mk.inj e; exact ih
        · exact htab g sp hg) hf (h _)
      intro k d r hr
      exact this (n + 1) d r hr
  intro k d r hr
  exact key k k d r hr
end Go.Lift

namespace Go.Lift
set_option linter.unusedVariables false
set_option linter.unusedSimpArgs false
open Go.ChangeShapes

/-! ### Arguments from outside: what is handed in is data of its kind -/
def fldK (P : Program) (rec : TypeId → Kt → Bool) : List Field → Nat → Kt → Bool
  | [], _, .unit => true
  | f :: fs, o, .pair a b => decide (f.offset = o) && decide (P.cellsOf f.type = a.size) && rec f.type a && fldK P rec fs (o + a.size) b
  | _, _, _ => false
/-- The type is just of this kind (no pointers). -/
def tyK (P : Program) : Nat → TypeId → Kt → Bool
  | 0, _, _ => false
  | n + 1, t, k => match P.underlying t, k with
    | some (.int a), .int b => decide (a = b)
    | some .bool, .bool => true
    | some .string, .str => true
    | some (.slice e), .sl T k => decide (T = e) && decide (P.cellsOf e = k.size) && decide (0 < k.size) && tyK P n e k
    | some (.array m e), .arr m' k => decide (m = m') && decide (P.cellsOf e = k.size) && decide (P.cellsOf t = m * k.size) && tyK P n e k
    | some (.struct fs), k => decide (P.cellsOf t = k.size) && fldK P (tyK P n) fs.toList 0 k
    | _, _ => false

/-- Data that may be handed in: numbers in their range, lists that fit into a machine. -/
def okD (P : Program) : (k : Kt) → k.T → Prop
  | .int i, n => (Lit.int i n).wf = true
  | .bool, _ => True
  | .str, s => s.size ≤ reachBytes
  | .unit, _ => True
  | .pair a b, x => okD P a x.1 ∧ okD P b x.2
  | .arr n e, xs => xs.length = n ∧ ∀ x ∈ xs, okD P e x
  | .sl T e, xs => xs.length * P.bytesOf T ≤ reachBytes ∧ ∀ x ∈ xs, okD P e x
  | .ptr _ _, _ => True
  | .unk, _ => True
  | .fn _ _, _ => True
  | .bld _ _, _ => True
  | .ifc _ _, _ => True
  | .fnv, _ => True
  | .map _ _, _ => True
  | .win s, x => okD P s x.1

/-- How much data there are. -/
def bulkD : (k : Kt) → k.T → Nat
  | .int _, _ => 1
  | .bool, _ => 1
  | .str, s => s.size + 1
  | .unit, _ => 0
  | .pair a b, x => bulkD a x.1 + bulkD b x.2
  | .arr _ e, xs => (List.map (bulkD e) xs).sum
  | .sl _ e, xs => (List.map (bulkD e) xs).sum + 1
  | .ptr _ _, _ => 0
  | .unk, _ => 0
  | .fn _ _, _ => 0
  | .bld _ _, _ => 0
  | .ifc _ _, _ => 0
  | .fnv, _ => 0
  | .map _ _, _ => 0
  | .win s, x => bulkD s x.1 + 1
structure BulkLaw {H : Type} (B : DataW H → Nat) (BA : List (DataW H) → Nat) : Prop where
  pos : ∀ d, 1 ≤ B d
  str : ∀ b, b.length + 1 ≤ B (.lit (.string b))
  slice : ∀ e s, BA e + 1 ≤ B (.slice e s)
  agg : ∀ p, BA p ≤ B (.agg p)
  cons : ∀ d r, BA (d :: r) = B d + BA r

def Old (W : World) (b : Nat) : Prop := b < W.heap.size

section
variable {H : Type} {enc : TypeId × Value → H} {P : Program} {W : World} {base : Nat} {spare : Nat → Bool} {held : Bool}

theorem spot_of_cell {w : World} {a : Addr} {v : Value} (h : w.cell? a = some v) : a.spot = none ∧ a.block < w.heap.size := by
  unfold World.cell? at h
  split at h
  · rename_i hb
    cases hs : a.spot with
    | none => exact ⟨rfl, heap_lt hb⟩
    | some n => rw [hs] at h; simp at h
  · cases h

theorem weightsAll_mem {e : TypeId} : ∀ {l : List (DataW H)} {d : DataW H}, d ∈ l → ∀ x ∈ d.weights P e, x ∈ DataW.weightsAll P e l
  | [], d, h => by cases h
  | d' :: l, d, h => by
    intro x hx
    rw [DataW.weightsAll, List.mem_append]
    rcases List.mem_cons.1 h with rfl | h
    · exact .inl hx
    · exact .inr (weightsAll_mem h x hx)

abbrev Opens (enc : TypeId × Value → H) (P : Program) (W : World) (base : Nat) (spare : Nat → Bool) (held : Bool) (t : TypeId) (k : Kt) : Prop :=
  ∀ m cs d ps, DataW.trod enc P W base spare held m t cs = some (d, ps) → (∀ x ∈ d.weights P t, x ≤ reachBytes) → ∃ x : k.T, Rz W (Old W) k .sh [] x cs ∧ okD P k x ∧ ∀ (B : DataW H → Nat) (BA : List (DataW H) → Nat), BulkLaw B BA → bulkD k x ≤ B d

theorem open_fields {rec : TypeId → Kt → Bool} (hrec : ∀ t k, rec t k = true → Opens enc P W base spare held t k) {m : Nat} {cs : List Value} : ∀ (fs : List Field) (o : Nat) (k : Kt) (xs : List (DataW H × List MemPlace)), fldK P rec fs o k = true →
    xs.length = fs.length → (∀ (i : Nat) (f : Field), fs[i]? = some f → DataW.trod enc P W base spare held m f.type ((cs.drop f.offset).take (P.cellsOf f.type)) = xs[i]?) → cs.length = o + k.size →
    (∀ x ∈ DataW.weightsEach P (fs.map (·.type)) (xs.map (·.1)), x ≤ reachBytes) → ∃ x : k.T, Rz W (Old W) k .sh [] x (cs.drop o) ∧ okD P k x ∧ ∀ (B : DataW H → Nat) (BA : List (DataW H) → Nat), BulkLaw B BA → bulkD k x ≤ BA (xs.map (·.1)) := by
  intro fs
  induction fs with
  | nil =>
    intro o k xs hk hl hx hc hw
    cases k <;> try (simp [fldK] at hk; done)
    refine ⟨(), ⟨rfl, ?_⟩, trivial, fun B BA _ => Nat.zero_le _⟩
    simp only [Kt.size] at hc
    exact List.drop_eq_nil_of_le (by omega)
  | cons f fs ih =>
    intro o k xs hk hl hx hc hw
    cases k <;> try (simp [fldK] at hk; done)
    rename_i a b
    simp only [fldK, Bool.and_eq_true, decide_eq_true_eq] at hk
    obtain ⟨⟨⟨h1, h2⟩, h3⟩, h4⟩ := hk
    match xs, hl with
    | x :: xs, hl =>
      have h0 := hx 0 f rfl
      rw [h1, h2] at h0
      simp only [Kt.size] at hc
      simp only [List.map_cons, DataW.weightsEach, List.mem_append] at hw
      obtain ⟨y, hy1, hy2, hy3⟩ := hrec _ _ h3 m _ x.1 x.2 h0 (fun u hu => hw u (.inl hu))
      obtain ⟨z, hz1, hz2, hz3⟩ := ih (o + a.size) b xs h4 (by simpa using hl) (fun i f' hf => hx (i + 1) f' (by simpa using hf)) (by omega) (fun u hu => hw u (.inr hu))
      refine ⟨(y, z), ⟨[], [], _, _, rfl, ?_, hy1, hz1⟩, ⟨hy2, hz2⟩, fun B BA hB => by
        rw [List.map_cons, hB.cons]; exact Nat.add_le_add (hy3 B BA hB) (hz3 B BA hB)⟩
      rw [← List.drop_drop, List.take_append_drop]

theorem open_elems {e : TypeId} {k : Kt} (he : Opens enc P W base spare held e k) {m : Nat} {b o : Nat} (hs : P.cellsOf e = k.size) {elems : List (DataW H × List MemPlace)}
    (hel : ∀ i, i < elems.length → (W.cells? base ((⟨b, o, none⟩ : Addr).add (i * P.cellsOf e)) (P.cellsOf e)).bind (DataW.trod enc P W base spare held m e) = elems[i]?) (hw : ∀ x ∈ DataW.weightsAll P e (elems.map (·.1)), x ≤ reachBytes) :
    ∀ j, j ≤ elems.length → ∃ (xs : List k.T) (cc : List Value), xs.length = j ∧ cc.length = j * k.size ∧ RzL (Rz W (Old W) k .sh) [] xs cc ∧ CellsAt W b o cc ∧ (∀ x ∈ xs, okD P k x) ∧ ∀ (B : DataW H → Nat) (BA : List (DataW H) → Nat), BulkLaw B BA → (xs.map (bulkD k)).sum ≤ ((elems.take j).map fun d => B d.1).sum := by
  intro j
  induction j with
  | zero => exact fun _ => ⟨[], [], rfl, by simp, .nil, fun j v h => by simp at h, by simp, fun B BA _ => by simp⟩
  | succ j ih =>
    intro hj
    obtain ⟨xs, cc, h1, h2, h3, h4, h5, h6⟩ := ih (by omega)
    have hx := hel j (by omega)
    rw [List.getElem?_eq_getElem (show j < elems.length by omega)] at hx
    obtain ⟨cs', hc1, hc2⟩ := Option.bind_eq_some_iff.1 hx
    obtain ⟨_, hlen, hcell⟩ := World.cells?_some hc1
    obtain ⟨y, hy1, hy2, hy3⟩ := he m cs' elems[j].1 elems[j].2 hc2 (fun x hx => hw x (weightsAll_mem (d := elems[j].1) (List.mem_map.2 ⟨_, List.getElem_mem _, rfl⟩) x hx))
    refine ⟨xs ++ [y], cc ++ cs', by simp [h1], by simp [h2, hlen, hs, Nat.add_mul], ?_, fun i v hi => ?_, fun x hx => ?_, fun B BA hB => ?_⟩
    · have := h3.append (RzL.single hy1)
      simpa using this
    · by_cases hi' : i < cc.length
      · rw [List.getElem?_append_left hi'] at hi
        exact h4 i v hi
      · rw [List.getElem?_append_right (by omega)] at hi
        have hlt := (List.getElem?_eq_some_iff.1 hi).1
        have := hcell (i - cc.length) (by omega)
        rw [hi] at this
        rw [← this]
        have e1 : ((⟨b, o, none⟩ : Addr).add (j * P.cellsOf e)).add (i - cc.length) = ⟨b, o + i, none⟩ := by
          rw [Addr.add_lit, Addr.add_lit]
          congr 1
          rw [h2, hs]
          rw [h2] at hi'
          omega
        rw [e1]
    · rcases List.mem_append.1 hx with hx | hx
      · exact h5 x hx
      · rw [List.mem_singleton.1 hx]; exact hy2
    · have e1 := h6 B BA hB
      have e2 := hy3 B BA hB
      rw [List.take_add_one, List.getElem?_eq_getElem (show j < elems.length by omega)]
      simp only [List.map_append, List.sum_append, List.map_cons, List.map_nil, List.sum_cons, List.sum_nil, Option.toList_some]
      omega

theorem sum_le_BA {B : DataW H → Nat} {BA : List (DataW H) → Nat} (hB : BulkLaw B BA) : ∀ l : List (DataW H × List MemPlace), (l.map fun d => B d.1).sum ≤ BA (l.map (·.1))
  | [] => Nat.zero_le _
  | d :: l => by
    have := sum_le_BA hB l
    rw [List.map_cons, List.map_cons, List.sum_cons, hB.cons]
    omega
/-- **What is handed in is data of its kind.** -/
theorem open_k : ∀ n t k, tyK P n t k = true → Opens enc P W base spare held t k := by
  intro n
  induction n with
  | zero => intro t k h; simp [tyK] at h
  | succ n ih =>
    intro t k h m cs d ps hd hw
    unfold tyK at h
    split at h
    · rename_i a b hu
      obtain ⟨x, rfl, hx, hwf⟩ := DataW.trod_int hu hd
      have h := of_decide_eq_true h
      subst h
      exact ⟨x, ⟨rfl, .inr ⟨by simp, rfl⟩⟩, hwf, fun B BA hB => hB.pos _⟩
    · rename_i hu
      obtain ⟨x, rfl, hx⟩ := DataW.trod_bool hu hd
      exact ⟨x, ⟨rfl, .inr ⟨by simp, rfl⟩⟩, trivial, fun B BA hB => hB.pos _⟩
    · rename_i hu
      obtain ⟨x, rfl, hx, _⟩ := DataW.trod_string hu hd
      obtain ⟨rfl, _⟩ := Prod.mk.inj hx
      refine ⟨x, ⟨rfl, .inr ⟨by simp, rfl⟩⟩, ?_, fun B BA hB => ?_⟩
      · have := hw x.data.toList.length (by simp [DataW.weights])
        simpa [okD] using this
      · have := hB.str x.data.toList
        rw [Array.length_toList] at this
        exact this
    · rename_i e T k hu
      simp only [Bool.and_eq_true, decide_eq_true_eq] at h
      obtain ⟨⟨⟨rfl, h2⟩, h3⟩, h4⟩ := h
      rcases DataW.trod_slice hu hd with ⟨rfl, hx⟩ | ⟨a, len, cap, elems, rest, n', _, rfl, hx, hb, hl, hm, hlen, hel, hsp, hns⟩
      · exact ⟨[], ⟨rfl, .inr ⟨by simp, none, 0, rfl, capOk0, .inl ⟨rfl, fun _ => rfl⟩⟩⟩, by simp [okD], fun B BA hB => hB.pos _⟩
      · obtain ⟨rfl, _⟩ := Prod.mk.inj hx
        simp only [DataW.weights, hu, List.mem_cons, List.mem_append] at hw
        have hw1 := hw _ (.inl rfl)
        by_cases hz : elems.length = 0
        · refine ⟨[], ⟨rfl, .inr ⟨by simp, some a, cap, ?_, ⟨Nat.zero_le _, by unfold maxLen at hm; omega⟩, .inl ⟨rfl, fun h => by cases h⟩⟩⟩, by simp [okD], fun B BA hB => hB.pos _⟩
          rw [← hlen, hz]; rfl
        · have h0 := hel 0 (by omega)
          rw [List.getElem?_eq_getElem (show 0 < elems.length by omega)] at h0
          obtain ⟨cs', hc1, _⟩ := Option.bind_eq_some_iff.1 h0
          obtain ⟨_, _, hcell⟩ := World.cells?_some hc1
          have hc0 := hcell 0 (by omega)
          have hl' := (World.cells?_some hc1).2.1
          rw [List.getElem?_eq_getElem (by omega)] at hc0
          obtain ⟨hs1, hs2⟩ := spot_of_cell hc0
          obtain ⟨b, o, sp⟩ := a
          have hsp0 : sp = none := by
            unfold Addr.add at hs1
            simpa using hs1
          subst hsp0
          have hblk : b < W.heap.size := by
            rw [Addr.add_lit, Addr.add_lit] at hs2
            exact hs2
          obtain ⟨xs, cc, x1, x2, x3, x4, x5, x6⟩ := open_elems (ih _ _ h4) (elems := elems) h2 (fun i hi => hel i (by omega)) (fun x hx => hw x (.inr (.inl hx))) elems.length (Nat.le_refl _)
          refine ⟨xs, ⟨rfl, .inr ⟨by simp, some ⟨b, o, none⟩, cap, by rw [x1, hlen], ⟨by omega, by unfold maxLen at hm; omega⟩, .inr ⟨b, o, cc, rfl, hblk, hblk, x3, x4⟩⟩⟩, ⟨?_, x5⟩, fun B BA hB => ?_⟩
          · refine Nat.le_trans (Nat.mul_le_mul_right _ ?_) hw1
            simp [x1]
          · have e1 := x6 B BA hB
            rw [List.take_length] at e1
            have e2 := hB.slice (elems.map (·.1)) (rest.map (·.1))
            have e3 := sum_le_BA hB elems
            show (List.map (bulkD k) xs).sum + 1 ≤ _
            omega
    · rename_i m0 e m' k hu
      simp only [Bool.and_eq_true, decide_eq_true_eq] at h
      obtain ⟨⟨⟨rfl, h2⟩, h3⟩, h4⟩ := h
      obtain ⟨xs, mm, _, hx, hl, hxl, hel⟩ := DataW.trod_array hu hd
      obtain ⟨rfl, _⟩ := Prod.mk.inj hx
      simp only [DataW.weights, hu] at hw
      have key : ∀ j, j ≤ m0 → ∃ ys : List k.T, ys.length = j ∧ RzL (Rz W (Old W) k .sh) [] ys (cs.take (j * k.size)) ∧ (∀ x ∈ ys, okD P k x) ∧ ∀ (B : DataW H → Nat) (BA : List (DataW H) → Nat), BulkLaw B BA → (ys.map (bulkD k)).sum ≤ ((xs.take j).map fun d => B d.1).sum := by
        intro j
        induction j with
        | zero => exact fun _ => ⟨[], rfl, by simpa using RzL.nil, by simp, fun B BA _ => by simp⟩
        | succ j ihj =>
          intro hj
          obtain ⟨ys, y1, y2, y3, y4⟩ := ihj (by omega)
          have h0 := hel j (by omega)
          rw [List.getElem?_eq_getElem (show j < xs.length by omega), h2] at h0
          obtain ⟨y, z1, z2, z3⟩ := ih _ _ h4 mm _ xs[j].1 xs[j].2 h0 (fun x hx => hw x (weightsAll_mem (d := xs[j].1) (List.mem_map.2 ⟨_, List.getElem_mem _, rfl⟩) x hx))
          refine ⟨ys ++ [y], by simp [y1], ?_, fun x hx => ?_, fun B BA hB => ?_⟩
          · have := y2.append (RzL.single z1)
            rw [Nat.add_mul, Nat.one_mul, List.take_add]
            simpa using this
          · rcases List.mem_append.1 hx with hx | hx
            · exact y3 x hx
            · rw [List.mem_singleton.1 hx]; exact z2
          · have e1 := y4 B BA hB
            have e2 := z3 B BA hB
            rw [List.take_add_one, List.getElem?_eq_getElem (show j < xs.length by omega)]
            simp only [List.map_append, List.sum_append, List.map_cons, List.map_nil, List.sum_cons, List.sum_nil, Option.toList_some]
            omega
      obtain ⟨ys, y1, y2, y3, y4⟩ := key m0 (Nat.le_refl _)
      rw [List.take_of_length_le (by omega)] at y2
      refine ⟨ys, ⟨y1, y2⟩, ⟨y1, y3⟩, fun B BA hB => ?_⟩
      have e1 := y4 B BA hB
      rw [List.take_of_length_le (by omega)] at e1
      exact Nat.le_trans e1 (Nat.le_trans (sum_le_BA hB xs) (hB.agg _))
    · rename_i k x0 k1 fs hu
      simp only [Bool.and_eq_true, decide_eq_true_eq] at h
      obtain ⟨xs, mm, _, hx, hl, hxl, hel⟩ := DataW.trod_struct hu hd
      obtain ⟨rfl, _⟩ := Prod.mk.inj hx
      simp only [DataW.weights, hu] at hw
      have := open_fields (fun t k h => ih t k h) (m := mm) (cs := cs) fs.toList 0 k xs h.2 (by simpa using hxl) (fun i f hf => hel i f (by simpa using hf)) (by omega) hw
      rw [List.drop_zero] at this
      obtain ⟨x, x1, x2, x3⟩ := this
      exact ⟨x, x1, x2, fun B BA hB => Nat.le_trans (x3 B BA hB) (hB.agg _)⟩
    · cases h

/-- The value's cells are the kind's. -/
theorem shows_of_ok {r : Reach} {t : TypeId} {n : Nat} {k : Kt} (hk : tyK P n t k = true) {v : Value} (hv : Value.okWide P W r base t v) : ∃ cs, v.cells.toList = cs ∧ Shows k v cs := by
  cases n with
  | zero => simp [tyK] at hk
  | succ n =>
    have single : ∀ {v : Value}, (∀ cs, v ≠ .agg cs) → v.cells.toList = [v] := by
      intro v h
      cases v <;> first | rfl | exact absurd rfl (h _)
    refine ⟨_, rfl, ?_⟩
    unfold tyK at hk
    unfold Value.okWide at hv
    split at hk <;> try (rename_i hu; rw [hu] at hv)
    · rw [single (fun cs e => by subst e; simp [Cell.okWide, Cell.ok, hu] at hv)]; rfl
    · rw [single (fun cs e => by subst e; simp [Cell.okWide, Cell.ok, hu] at hv)]; rfl
    · rw [single (fun cs e => by subst e; simp [Cell.okWide, Cell.ok, hu] at hv)]; rfl
    · rw [single (fun cs e => by subst e; simp [Cell.okWide, Cell.ok, hu] at hv)]; rfl
    · obtain ⟨cs, rfl, _⟩ := hv
      simp [Shows, Kt.isAgg, Value.cells]
    · rename_i k x0 k1 fs
      obtain ⟨cs, rfl, _⟩ := hv
      have : k.isAgg = true := by
        simp only [Bool.and_eq_true] at hk
        generalize fs.toList = l at hk
        cases l <;> cases k <;> first | rfl | (simp [fldK] at hk; done)
      simp [Shows, this, Value.cells]
    · cases hk
end
end Go.Lift

namespace Go.Lift
set_option linter.unusedVariables false
set_option linter.unusedSimpArgs false

/-! ### Functions whose contracts are given -/
/-- Values alone. -/
def allVal : List (Kt × PM) → Bool
  | [] => true
  | (_, .val) :: l => allVal l
  | _ => false
theorem args_vals : ∀ {ps : List (Kt × PM)}, allVal ps = true → ∀ {w : World} {S : Nat → Prop} {d : HL (ps.map (·.1))} {vs : List Value} {F : List Nat}, ArgsR w S ps d vs F → F = []
  | [], _, w, S, d, vs, F, h => h.2
  | (k, .val) :: ps, hm, w, S, d, vs, F, h => by
    obtain ⟨v, vs', rfl, _, h2⟩ := h
    exact args_vals (ps := ps) hm h2
  | (k, .mut m) :: ps, hm, w, S, d, vs, F, h => by cases hm
  | (k, .tak m) :: ps, hm, w, S, d, vs, F, h => by cases hm
theorem mut_vals : ∀ {ps : List (Kt × PM)}, allVal ps = true → ∀ {w w' : World} {S S' : Nat → Prop} {d : HL (ps.map (·.1))} {d' : HL ((mutsOf ps).map (·.1))} {vs : List Value} {F : List Nat}, ArgsR w S ps d vs F → MutR w' S' ps d' vs []
  | [], _, w, w', S, S', d, d', vs, F, h => rfl
  | (k, .val) :: ps, hm, w, w', S, S', d, d', vs, F, h => by
    obtain ⟨v, vs', rfl, _, h2⟩ := h
    exact ⟨v, vs', rfl, mut_vals (ps := ps) hm h2⟩
  | (k, .mut m) :: ps, hm, w, w', S, S', d, d', vs, F, h => by cases hm
  | (k, .tak m) :: ps, hm, w, w', S, S', d, d', vs, F, h => by cases hm

theorem fr_of_below {w w' : World} {F : List Nat} (h : RowKit.Below w.heap.size w w') : Fr w w' (· ∈ F) := ⟨h.os, h.tape, h.output, h.size, fun b hb _ => h.block b hb⟩
theorem below_of_fr {w w' : World} (h : Fr w w' (· ∈ ([] : List Nat))) : RowKit.Below w.heap.size w w' := ⟨h.os, h.tape, h.output, h.size, fun b hb => h.frame b hb (by simp)⟩

/-- A function of values, by its contract. -/
theorem fnOk_of {P : Program} {Gl : World → Prop} {f : FuncId} {sp : Spec} (hm : allVal sp.sig.ps = true)
    (h : ∀ k d r, sp.den k d = some r → ∀ (w : World) (S : Nat → Prop) (vs : List Value), Gl w → ArgsR w S sp.sig.ps d vs [] → Calls P f vs.toArray w fun e w' => ∃ us F', e = .returned (tup us) ∧ RowKit.Below w.heap.size w w' ∧ F'.Nodup ∧ (∀ b ∈ F', w.heap.size ≤ b) ∧
      ResR w' (After S [] w.heap.size F') sp.sig.rs r.1 us F') : FnOk P Gl f sp := by
  intro k d r hr w S vs F hgl hargs hn hS
  obtain rfl := args_vals hm hargs
  refine (h k d r hr w S vs (hgl w ⟨rfl, rfl, rfl, Nat.le_refl _, fun _ _ _ => rfl⟩) hargs).mono fun e w' ⟨us, F', h1, h2, h3, h4, h5⟩ => ?_
  exact ⟨us, F', [], h1, fr_of_below h2, by simpa using h3, fun b hb => .inr (h4 b (by simpa using hb)), by simpa using h5, mut_vals hm hargs⟩

/-! ### What values are -/
theorem val_int {w : World} {S : Nat → Prop} {k : IntKind} {x : Int} {v : Value} (h : ∃ cs, Shows (.int k) v cs ∧ Rz w S (.int k) .sh [] x cs) : v = .int k x := by
  obtain ⟨cs, h1, _, h2⟩ := h
  have h1 : cs = [v] := h1
  rcases h2 with h2 | h2
  · cases h2.1
  · rw [h1] at h2; exact (List.cons.inj h2.2).1
theorem val_str {w : World} {S : Nat → Prop} {x : ByteArray} {v : Value} (h : ∃ cs, Shows .str v cs ∧ Rz w S .str .sh [] x cs) : v = .string x := by
  obtain ⟨cs, h1, _, h2⟩ := h
  have h1 : cs = [v] := h1
  rcases h2 with h2 | h2
  · cases h2.1
  · rw [h1] at h2; exact (List.cons.inj h2.2).1
theorem val_bool {w : World} {S : Nat → Prop} {x : Bool} {v : Value} (h : ∃ cs, Shows .bool v cs ∧ Rz w S .bool .sh [] x cs) : v = .bool x := by
  obtain ⟨cs, h1, _, h2⟩ := h
  have h1 : cs = [v] := h1
  rcases h2 with h2 | h2
  · cases h2.1
  · rw [h1] at h2; exact (List.cons.inj h2.2).1
/-- One cell an element. -/
def enc1 : (k : Kt) → k.T → Value
  | .int k, n => .int k n
  | .bool, b => .bool b
  | .str, s => .string s
  | _, _ => undef
def Kt.atom : Kt → Bool
  | .int _ => true
  | .bool => true
  | .str => true
  | _ => false
theorem rz_atom {w : World} {S : Nat → Prop} {k : Kt} (hk : k.atom = true) {F : List Nat} {x : k.T} {cs : List Value} (h : Rz w S k .sh F x cs) : cs = [enc1 k x] := by
  cases k <;> try (cases hk; done)
  all_goals
    rcases h.2 with h2 | h2
    · cases h2.1
    · exact h2.2
theorem rz_atom_mk {w : World} {S : Nat → Prop} {k : Kt} (hk : k.atom = true) (x : k.T) : Rz w S k .sh [] x [enc1 k x] := by
  cases k <;> try (cases hk; done)
  all_goals exact ⟨rfl, .inr ⟨by simp, rfl⟩⟩
theorem rzl_atom {w : World} {S : Nat → Prop} {k : Kt} (hk : k.atom = true) {F : List Nat} {xs : List k.T} {cc : List Value} (h : RzL (Rz w S k .sh) F xs cc) : cc = xs.map (enc1 k) := by
  induction h with
  | nil => rfl
  | cons h t ih => rw [rz_atom hk h, ih]; rfl
theorem rzl_atom_mk {w : World} {S : Nat → Prop} {k : Kt} (hk : k.atom = true) : ∀ xs : List k.T, RzL (Rz w S k .sh) [] xs (xs.map (enc1 k))
  | [] => .nil
  | x :: xs => RzL.cons (F := []) (Fs := []) (rz_atom_mk hk x) (rzl_atom_mk hk xs)
/-- A slice of such. -/
theorem val_sl {w : World} {S : Nat → Prop} {k : Kt} (hk : k.atom = true) {T : TypeId} {xs : List k.T} {v : Value} (h : ∃ cs, Shows (.sl T k) v cs ∧ Rz w S (.sl T k) .sh [] xs cs) :
    ∃ A cap, v = .slice A xs.length cap ∧ CapOk xs.length cap ∧ (Nl A cap xs ∨ ∃ b o, A = some ⟨b, o, none⟩ ∧ S b ∧ b < w.heap.size ∧ CellsAt w b o (xs.map (enc1 k))) := by
  obtain ⟨cs, h1, _, h2⟩ := h
  have h1 : cs = [v] := h1
  rcases h2 with h2 | ⟨_, A, cap, h3, h4, h5⟩
  · cases h2.1
  · rw [h1] at h3
    refine ⟨A, cap, (List.cons.inj h3).1, h4, h5.imp id ?_⟩
    rintro ⟨b, o, cc, e1, e2, e3, e4, e5⟩
    rw [rzl_atom hk e4] at e5
    exact ⟨b, o, e1, e2, e3, e5⟩
theorem res_int (w : World) (S : Nat → Prop) (k : IntKind) (x : Int) : ∃ cs, Shows (.int k) (.int k x) cs ∧ Rz w S (.int k) .sh [] x cs := ⟨_, rfl, rfl, .inr ⟨by simp, rfl⟩⟩
theorem res_str (w : World) (S : Nat → Prop) (x : ByteArray) : ∃ cs, Shows .str (.string x) cs ∧ Rz w S .str .sh [] x cs := ⟨_, rfl, rfl, .inr ⟨by simp, rfl⟩⟩
theorem res_bool (w : World) (S : Nat → Prop) (x : Bool) : ∃ cs, Shows .bool (.bool x) cs ∧ Rz w S .bool .sh [] x cs := ⟨_, rfl, rfl, .inr ⟨by simp, rfl⟩⟩
/-- A new slice that is owned, by its row. -/
theorem res_row {w : World} {k : Kt} (hk : k.atom = true) {T : TypeId} {base : Nat} {xs : List k.T} {v : Value} (h : w.ownsRow base T 1 v xs.length (xs.map (enc1 k))) :
    ∃ F, F.Nodup ∧ (∀ b ∈ F, base ≤ b) ∧ ∀ S : Nat → Prop, ∃ cs, Shows (.sl T k) v cs ∧ Rz w S (.sl T k) (.ow .sh) F xs cs := by
  have hsz : k.size = 1 := by cases k <;> first | rfl | cases hk
  rcases h.2 with ⟨rfl, hx⟩ | ⟨g, cap, cur, rfl, hb, hg, hl, hm, hs, hx⟩
  · exact ⟨[], List.nodup_nil, by simp, fun S => ⟨_, rfl, .inl ⟨rfl, List.length_eq_zero_iff.1 hx, rfl⟩⟩⟩
  · refine ⟨[g], by simp, by simpa using hb, fun S => ⟨_, rfl, .inr ⟨g, cap, cur, [], rfl, rfl, hg, by rw [hs, hsz], ⟨hl, by unfold maxLen at hm; omega⟩, ?_⟩⟩⟩
    rw [hsz]
    rw [hx]
    exact rzl_atom_mk hk xs
end Go.Lift

namespace Go.Lift
set_option linter.unusedVariables false
set_option linter.unusedSimpArgs false
open Go.RowKit

/-! ### Rows that are owned, in the kit's words and in mine -/
theorem grown_fr {w w' : World} {row : Option Nat} (h : w.grownBy w' row) {F : List Nat} (hF : ∀ g, row = some g → g ∈ F) : Fr w w' (· ∈ F) :=
  ⟨h.os, h.tape, h.output, h.size, fun b hb hn => h.block b hb fun e => hn (hF b e.symm)⟩
theorem row_of_rz {w : World} {S : Nat → Prop} {k : Kt} (hk : k.atom = true) {T : TypeId} {F : List Nat} {xs : List k.T} {v : Value} (h : ∃ cs, Shows (.sl T k) v cs ∧ Rz w S (.sl T k) (.ow .sh) F xs cs) :
    F = v.ownBlock.toList ∧ w.ownsRow 0 T 1 v xs.length (xs.map (enc1 k)) := by
  have hsz : k.size = 1 := by cases k <;> first | rfl | cases hk
  obtain ⟨cs, h1, h2⟩ := h
  have h1 : cs = [v] := h1
  subst h1
  rcases h2 with ⟨rfl, rfl, h3⟩ | ⟨g, cap, C, Fe, h3, rfl, h4, h5, h6, h7⟩
  · rw [(List.cons.inj h3).1]
    exact ⟨rfl, by simp, .inl ⟨rfl, rfl⟩⟩
  · rw [(List.cons.inj h3).1]
    have hc := rzl_atom hk h7
    have hFe : Fe = [] := by
      have := h7.free (R' := fun _ _ _ => True) fun F' x c hr => by
        have : F' = [] := by cases k <;> first | exact hr.1 | cases hk
        exact ⟨this, trivial⟩
      exact this.1
    subst hFe
    refine ⟨rfl, by simp, .inr ⟨g, cap, C, rfl, Nat.zero_le _, h4, h6.1, by unfold maxLen; exact h6.2, by rw [h5, hsz], ?_⟩⟩
    rw [hsz] at hc
    exact hc
theorem rz_of_row {w : World} {S : Nat → Prop} {k : Kt} (hk : k.atom = true) {T : TypeId} {xs : List k.T} {v : Value} {base : Nat} (h : w.ownsRow base T 1 v xs.length (xs.map (enc1 k))) :
    ∃ cs, Shows (.sl T k) v cs ∧ Rz w S (.sl T k) (.ow .sh) v.ownBlock.toList xs cs := by
  have hsz : k.size = 1 := by cases k <;> first | rfl | cases hk
  rcases h.2 with ⟨rfl, hx⟩ | ⟨g, cap, cur, rfl, hb, hg, hl, hm, hs, hx⟩
  · exact ⟨_, rfl, .inl ⟨rfl, List.length_eq_zero_iff.1 hx, rfl⟩⟩
  · refine ⟨_, rfl, .inr ⟨g, cap, cur, [], rfl, rfl, hg, by rw [hs, hsz], ⟨hl, by unfold maxLen at hm; omega⟩, ?_⟩⟩
    rw [hsz, hx]
    exact rzl_atom_mk hk xs

/-! ### strings.Builder -/
def intsOf (x : ByteArray) : List Int := x.data.toList.map fun b => (b.toNat : Int)
theorem intsOf_len (x : ByteArray) : (intsOf x).length = x.size := by simp [intsOf]
theorem intsOf_cells (x : ByteArray) : (intsOf x).map (enc1 (.int .u8)) = x.data.toList.map fun b => Value.int .u8 b.toNat := by simp [intsOf, enc1]
theorem intsOf_app (x y : ByteArray) : intsOf (x ++ y) = intsOf x ++ intsOf y := by simp [intsOf, ByteArray.data_append]
theorem buf_rz {w : World} {e : TypeId} {v : Value} {x : ByteArray} {Fb : List Nat} (h : BufAt w e v x Fb) (S : Nat → Prop) : Rz w S (.sl e (.int .u8)) (.ow .sh) Fb (intsOf x) [v] := by
  rcases h with ⟨rfl, h1, rfl⟩ | ⟨g, cap, C, rfl, rfl, h2, h3, h4, h5⟩
  · refine .inl ⟨rfl, ?_, rfl⟩
    exact List.length_eq_zero_iff.1 (by rw [intsOf_len]; exact h1)
  · refine .inr ⟨g, cap, C, [], by rw [intsOf_len], rfl, h2, by rw [h3]; simp [Kt.size], by rw [intsOf_len]; exact h4, ?_⟩
    have : C.toList.take ((intsOf x).length * Kt.size (.int .u8)) = (intsOf x).map (enc1 (.int .u8)) := by
      rw [intsOf_len, intsOf_cells, ← h5]
      simp [Kt.size]
    rw [this]
    exact rzl_atom_mk (k := .int .u8) rfl _
theorem rz_buf {w : World} {S : Nat → Prop} {e : TypeId} {v : Value} {x : ByteArray} {Fb : List Nat} (h : Rz w S (.sl e (.int .u8)) (.ow .sh) Fb (intsOf x) [v]) : BufAt w e v x Fb := by
  rcases h with ⟨rfl, h1, h2⟩ | ⟨g, cap, C, Fe, h1, rfl, h2, h3, h4, h5⟩
  · refine .inl ⟨(List.cons.inj h2).1, ?_, rfl⟩
    have := congrArg List.length h1
    rw [intsOf_len] at this
    exact this
  · have hFe : Fe = [] := by
      have := h5.free (R' := fun _ _ _ => True) fun F' x c hr => ⟨hr.1, trivial⟩
      exact this.1
    subst hFe
    have hc := rzl_atom (k := .int .u8) rfl h5
    rw [intsOf_len] at h1 h4 hc
    refine .inr ⟨g, cap, C, (List.cons.inj h1).1, rfl, h2, by rw [h3]; simp [Kt.size], h4, ?_⟩
    rw [← intsOf_cells, ← hc]
    simp [Kt.size]

/-- append to bytes of one's own, in a walk. -/
theorem wpList_appB {P : Program} {w : World} {ops : Array Oper} {rest : List Oper} {o : Oper} {a : Act} {Q : Exit → Act → World → Prop} (hgd : o.guard = none) (sl x : Operand) (t t2 : TypeId)
    (ho : o.op = .call { callee := .builtin .append, args := #[sl, x], argTypes := #[t, t2] }) (T : TypeId) (i : TypeInfo) (hu : P.underlying t = some (.slice T)) (hi : P.info? T = some i) (hsz : i.size = 1) (hz : i.zero = some (.int .u8 0)) (hby : i.bytes = 1)
    (v : Value) (hsv : a.eval sl = v) {F : List Nat} {xs : ByteArray} (hv : BufAt w T v xs F) (hnd : F.Nodup) (ys : List Int) (hsrc : Src P 1 t2 (a.eval x) ys.length (ys.map (enc1 (.int .u8))) w) (hlen : xs.size + ys.length ≤ 140737488355328)
    (h : ∀ A n c w' F', Fr w w' (· ∈ F) → (∀ b ∈ F', b ∈ F ∨ w.heap.size ≤ b) → F'.Nodup → Rz w' (fun _ => False) (.sl T (.int .u8)) (.ow .sh) F' (intsOf xs ++ ys) [.slice A n c] → wpList P ops Q rest (a.put o.dst (.slice A n c)) w') : wpList P ops Q (o :: rest) a w := by
  refine wpList_plain hgd fun K hK => ?_
  obtain ⟨v', w', F', hr, e1, e2, e3, e4, e5, e6, e7, e8⟩ := run_append (P := P) (Sh := fun _ => False) (e := .int .u8) (m := .sh) (ty := o.type) hu hi hsz hz rfl (buf_rz hv _) hnd (Fn := []) hsrc (rzl_atom_mk (k := .int .u8) rfl ys) (by simpa using hnd) (by rw [intsOf_len, hby]; omega) (by rw [intsOf_len]; omega)
  have hz' := e8 (fun _ => False) ⟨e4, fun b hb => hb.elim⟩ (by simp)
  obtain ⟨A, n, c, rfl⟩ : ∃ A n c, v' = .slice A n c := by
    rcases hz' with ⟨_, _, h3⟩ | ⟨g, cap, C, Fe, h3, _⟩
    · exact ⟨_, _, _, (List.cons.inj h3).1⟩
    · exact ⟨_, _, _, (List.cons.inj h3).1⟩
  subst hsv
  unfold Oper.wp execOp
  simp only [ho, resolve, invoke, builtin, Sem.run_bind, Sem.run_pure, Result.andThen_ok, List.map_toArray, List.map_cons, List.map_nil, hr]
  exact hK _ _ (h A n c w' F' ⟨e1, e2, e3, e4, e5⟩ (fun b hb => (e6 b hb).imp id fun h => h.resolve_left (by simp)) e7 hz')
end Go.Lift

namespace Go.Lift
set_option linter.unusedVariables false
set_option linter.unusedSimpArgs false

/-! ### From outside: a row's arguments, what is laid, what a law's function comes to -/
theorem LaidVars_mem {P : Program} {w : World} : ∀ {l : List (String × DataW Unit)} {ps : List MemPlace}, DataW.LaidVars P w l ps → ∀ n d, (n, d) ∈ l →
    ∃ g t cs fuel p, P.globalNamed n = some g ∧ (P.globals[g]?).map (·.type) = some t ∧ w.var? P n = some cs ∧ DataW.trod (fun _ => ()) P w 0 (fun _ => true) false fuel t cs.toList = some (d, p)
  | [], _, _, _, _, hm => by cases hm
  | (n', d') :: r, ps, h, n, d, hm => by
    obtain ⟨g, t, cs, fuel, p, q, h1, h2, h3, h4, h5, _⟩ := h
    rcases List.mem_cons.1 hm with e | e
    · cases e
      exact ⟨g, t, cs, fuel, p, h1, h2, h3, h4⟩
    · exact LaidVars_mem h5 n d e
theorem plainMet {P : Program} {l : List (String × DataW Unit)} {w : World} (hp : (l.all fun x => x.2.handleName?.isNone) = true) (h : laidMetH P l w) : laidMet P l w := by
  have hn : (l.filter fun x => x.2.handleName?.isSome) = [] := by
    rw [List.filter_eq_nil_iff]
    intro x hx
    have := List.all_eq_true.1 hp x hx
    cases hh : x.2.handleName? <;> simp_all
  unfold laidMetH at h
  rw [hn] at h
  exact h
/-- A laid table. -/
theorem tabIs_mem {P : Program} {W : World} {l : List (String × DataW Unit)} {name : String} {k : IntKind} {zs : List Int} {g : Nat} {t e : TypeId} {n : Nat}
    (hp : (l.all fun x => x.2.handleName?.isNone) = true) (h : laidMetH P l W) (hx : (name, Lib.tabData k zs) ∈ l)
    (hg : P.globalNamed name = some g) (hty : (P.globals[g]?).map (·.type) = some t) (ht : P.underlying t = some (.array n e)) (he : P.underlying e = some (.int k)) (hce : P.cellsOf e = 1) (hct : P.cellsOf t = n) : Lib.TabIs P W name k zs := by
  obtain ⟨ps, hlv, _⟩ := plainMet hp h
  obtain ⟨g', t', cs, fuel, p, hg', ht', hvar, hd⟩ := LaidVars_mem hlv _ _ hx
  obtain rfl := Option.some.inj (hg.symm.trans hg')
  obtain rfl := Option.some.inj (hty.symm.trans ht')
  unfold Lib.TabIs
  rw [hvar, ← Lib.cells_of_tab ht he hce hct hd]

/-- An argument. -/
theorem open_arg {H : Type} {enc : TypeId × Value → H} {P : Program} {W : World} {base b0 : Nat} {spare : Nat → Bool} {held : Bool} {r : Reach} {t : TypeId} {n : Nat} {k : Kt} (hk : tyK P n t k = true) {v : Value} {d : DataW H} {ps : List MemPlace}
    (ho : Value.okWide P W r b0 t v) (h : DataW.Trod enc P W base spare held t v d ps) (hw : ∀ x ∈ d.weights P t, x ≤ reachBytes) : ∃ x : k.T, (∃ cs, Shows k v cs ∧ Rz W (Old W) k .sh [] x cs) ∧ okD P k x ∧ ∀ (B : DataW H → Nat) (BA : List (DataW H) → Nat), BulkLaw B BA → bulkD k x ≤ B d := by
  obtain ⟨cs, h1, h2⟩ := shows_of_ok (base := b0) hk ho
  obtain ⟨fuel, h⟩ := h
  rw [h1] at h
  obtain ⟨x, h3, h4⟩ := open_k n t k hk fuel cs d ps h hw
  exact ⟨x, ⟨cs, h2, h3⟩, h4⟩

def TabOk (P : Program) (Gl : World → Prop) (tab : List (FuncId × Spec)) : Prop := ∀ f sp, (f, sp) ∈ tab → FnOk P Gl f sp
theorem tab_nil {P : Program} {Gl : World → Prop} : TabOk P Gl [] := fun f sp h => by cases h
theorem tab_cons {P : Program} {Gl : World → Prop} {f : FuncId} {sp : Spec} {tab : List (FuncId × Spec)} (h : FnOk P Gl f sp) (ht : TabOk P Gl tab) : TabOk P Gl ((f, sp) :: tab) := by
  intro g sp' hg
  rcases List.mem_cons.1 hg with e | hg
  · obtain ⟨rfl, rfl⟩ := Prod.mk.inj e; exact h
  · exact ht g sp' hg

/-- **A law's function that answers true.** -/
theorem law_calls {P : Program} {Gl : World → Prop} {f : FuncId} {ps : List (Kt × PM)} {den : Nat → HL (ps.map (·.1)) → Option (Sig.Out ⟨ps, [(.bool, .val)]⟩)} (hok : FnOk P Gl f ⟨⟨ps, [(.bool, .val)]⟩, den⟩) (hm : allVal ps = true)
    {W : World} (hG : ∀ w', RowKit.Below W.heap.size W w' → Gl w') {d : HL (ps.map (·.1))} {vs : List Value} (ha : ArgsR W (Old W) ps d vs []) {k : Nat} {r : Sig.Out ⟨ps, [(.bool, .val)]⟩} (hden : den k d = some r) (hr : r.1.1 = true) :
    Calls P f vs.toArray W fun e w' => e = .returned (.bool true) ∧ RowKit.Below W.heap.size W w' := by
  refine (hok k d _ hden W (Old W) vs [] (fun w' hw => hG w' (below_of_fr hw)) ha List.nodup_nil (by simp)).mono fun e w' ⟨us, Fr', Fm, h1, h2, _, _, h5, _⟩ => ?_
  obtain ⟨v, vs', rfl, h6, h7⟩ := h5
  obtain ⟨rfl, _⟩ := h7
  obtain rfl := val_bool h6
  rw [hr] at h1
  exact ⟨h1, below_of_fr h2⟩
end Go.Lift

