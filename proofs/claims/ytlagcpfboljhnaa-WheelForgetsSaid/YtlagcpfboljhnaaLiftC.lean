/-
  THE LIFT (LiftC): a checked way from the model's code to plain functions: what a function is compiled to, it is.
-/
import Derived.Test.YtlagcpfboljhnaaLiftB
import Derived.MapKept
import Derived.Orders
namespace Go.Lift
set_option linter.unusedVariables false
set_option linter.unusedSimpArgs false

/-- An owned window's cells. -/
theorem win_cells {w : World} {Sh : Nat → Prop} {T : TypeId} {e : Kt} {m : Mk} {F : List Nat} {z : List e.T × Nat} {cs : List Value} (h : Rz w Sh (.win (.sl T e)) (.ow m) F z cs) :
    z.2 ≤ z.1.length ∧ ((F = [] ∧ z.1 = [] ∧ cs = [.slice none 0 0]) ∨
      ∃ g cap C Fe, cs = [.slice (some ⟨g, 0, none⟩) z.2 cap] ∧ F = g :: Fe ∧ w.heap[g]? = some (.cells C T (0, 0)) ∧
        C.size = cap * e.size ∧ CapOk z.1.length cap ∧ RzL (Rz w Sh e m) Fe z.1 (C.toList.take (z.1.length * e.size))) := by
  obtain ⟨_, A, n, cap, rfl, hn, hz⟩ := h.resolve_left fun h => by cases h.1
  rcases hz with ⟨h1, h2, hc⟩ | ⟨g, cap', C, Fe, hc, h1, h2, h3, h4, h5⟩
  · obtain ⟨rfl, rfl, rfl⟩ := Value.slice.inj (List.cons.inj hc).1
    have h2 : z.1 = [] := h2
    have h0 : z.2 = 0 := Nat.le_zero.1 hn
    rw [h0]
    exact ⟨Nat.zero_le _, .inl ⟨h1, h2, rfl⟩⟩
  · obtain ⟨rfl, rfl, rfl⟩ := Value.slice.inj (List.cons.inj hc).1
    exact ⟨hn, .inr ⟨g, cap, C, Fe, rfl, h1, h2, h3, h4, h5⟩⟩

section
variable {P : Program} {cx : Cx} {g : G} {a : Act} {w : World} {V : Nat → Value} {Fp : Nat → List Nat} {o : Oper} {Q : Exit → Act → World → Prop}

theorem Pre.own_win (h : Pre cx g a w V Fp) {r : Nat} {T : TypeId} {e : Kt} {m : Mk} {hv : Nat} {z : List e.T × Nat} {v : Value} (hx : ESat cx g.rt V Fp w (.own r) v) (hr : g.rt r = some (some ⟨.win (.sl T e), .ow m, hv, z⟩)) :
    v = V r ∧ Rz w (cx.Sh Fp) (.win (.sl T e)) (.ow m) (Fp r) z [v] := by
  obtain ⟨R, hr', hv'⟩ := hx
  rw [hr] at hr'
  obtain rfl := Option.some.inj hr'
  have hvv := hv' (by simp)
  obtain ⟨cs, k1, k2⟩ := h.mem.roots r _ hr
  have k1 := (shows_na rfl).1 k1
  rw [k1] at k2
  rw [hvv]
  exact ⟨rfl, k2⟩
theorem Pre.sub_win (h : Pre cx g a w V Fp) {r hv : Nat} {R : GRoot} {E : Type} (e : E) {p : Path E} {T : TypeId} {el : Kt} {m : Mk} {get : E → R.k.T → (Kt.win (.sl T el)).T} {put : E → R.k.T → (Kt.win (.sl T el)).T → R.k.T} {ok : E → R.k.T → Bool} {v : Value}
    (hx : ESat cx g.rt V Fp w (.sub r hv (p.at e)) v) (hr : g.rt r = some (some R)) (hhv : R.hv = hv) (hL : lens R.k R.m p = some ⟨.win (.sl T el), .ow m, get, put, ok⟩) (hok : ok e R.x = true) :
    ∃ Fo b o', adr w R.k none (hdr R.k (V r)) (p.at e) = some (b, o') ∧ Rz w (cx.Sh Fp) (.win (.sl T el)) (.ow m) Fo (get e R.x) [v] ∧ ∀ q, adr w R.k none (hdr R.k (V r)) (p.at e ++ q) = adr w (.win (.sl T el)) (some (b, o')) [v] q := by
  obtain ⟨R0, h2, h3⟩ := hx
  rw [hr] at h2
  obtain rfl := Option.some.inj h2
  have hg : gok R.k R.m R.x (p.at e) = true := by rw [← gok_lens e (lens_is _ _ _ _ hL)]; exact hok
  obtain ⟨b, o', hb, h4, h5⟩ := (h3 R rfl).2 hhv hg
  obtain ⟨Fo, c, h6, h7, h8⟩ := h.comp hr e hL hok
  have hl : c.length = 1 := Rz_len _ _ _ _ _ _ _ h6
  obtain ⟨v0, rfl⟩ : ∃ v0, c = [v0] := by
    match c, hl with
    | [v0], _ => exact ⟨v0, rfl⟩
  have := (h8 b o' h4).1 0 _ rfl
  rw [Nat.add_zero, h5] at this
  obtain rfl := Option.some.inj this
  exact ⟨Fo, b, o', h4, h6, fun q => by rw [h7, h4]⟩

/-- len of a window. -/
theorem win_val {w : World} {Sh : Nat → Prop} {T : TypeId} {e : Kt} {m : Mk} {F : List Nat} {z : List e.T × Nat} {v : Value} (h : Rz w Sh (.win (.sl T e)) (.ow m) F z [v]) : ∃ A cap, v = .slice A z.2 cap := by
  obtain ⟨h0, h1⟩ := win_cells h
  rcases h1 with ⟨_, h2, h3⟩ | ⟨g, cap, C, Fe, h2, _⟩
  · rw [h2] at h0
    exact ⟨none, 0, by rw [Nat.le_zero.1 h0]; exact (List.cons.inj h3).1⟩
  · exact ⟨_, cap, (List.cons.inj h2).1⟩
end

section
variable {E : Type} {P : Program} {o : Oper} {s : Lst E} {gs : Gs}

def c_lenW (P : Program) (s : Lst E) (gs : Gs) (t : TypeId) (x : Operand) : Option (OR E) := match s.op gs x with
  | some (.own r) => match s.root gs r with
    | some ⟨.win (.sl _ _), .ow _, _, z⟩ => if isSlice P t then some (cVal (.val (.int .i64) fun e => ((z e).2 : Int))) else none
    | _ => none
  | some (.sub r hv p) => match s.root gs r with
    | some R => if R.hv = hv then match lens R.k R.m p with
      | some ⟨.win (.sl T e), .ow m, get, put, ok⟩ => if isSlice P t then some ⟨okChk R p ⟨.win (.sl T e), .ow m, get, put, ok⟩, [(0, .val (.int .i64) fun ε => ((get ε (R.x ε)).2 : Int))], [], 0⟩ else none
      | _ => none
      else none
    | none => none
  | _ => none
theorem snd_lenW {t : TypeId} {x : Operand} {r : OR E} (ho : o.op = .call { callee := .builtin .len, args := #[x], argTypes := #[t] }) (h : c_lenW P s gs t x = some r) : Snd P o s gs r := by
  unfold c_lenW at h
  have mx : x ∈ o.op.operands := by simp [ho, Op.operands, Call.operands]
  have run : ∀ {a : Act} {w : World} {v u : Value}, a.eval x = v → (∀ ty, (Builtin.len_ #[t] ty #[v]).run P w = .ok u w) → (execOp a.eval o).run P w = .ok (.value u) w := by
    intro a w v u h1 h2
    simp only [execOp, ho, resolve, Sem.run_bind, invoke, builtin]
    simp [h1, h2]
  split at h <;> try (cases h; done)
  · rename_i r0 hx
    split at h <;> try (cases h; done)
    rename_i T k m hv z hR
    split at h <;> try (cases h; done)
    rename_i ht
    obtain rfl := Option.some.inj h
    obtain ⟨T', hu⟩ := isSlice_spec ht
    refine Snd.value fun cx e g ac w V Fp h1 hok hA hp => ⟨_, ?_, esat_int _ _⟩
    obtain ⟨_, h2⟩ := hp.own_win (Lst.op_esat hp hA h1 mx hx) ((Lst.op_root hA mx hx (List.mem_singleton_self _)).trans (Lst.root_gr h1 hR))
    obtain ⟨A, cap, h3⟩ := win_val h2
    exact run h3 fun ty => run_len hu _ _ _ _
  · rename_i r0 hv p hx
    split at h <;> try (cases h; done)
    rename_i R hR
    split at h <;> try (cases h; done)
    rename_i hh
    split at h <;> try (cases h; done)
    rename_i T k m get put ok hL
    split at h <;> try (cases h; done)
    rename_i ht
    obtain rfl := Option.some.inj h
    obtain ⟨T', hu⟩ := isSlice_spec ht
    refine Snd.value fun cx e g ac w V Fp h1 hok hA hp => ⟨_, ?_, esat_int _ _⟩
    rw [OR.ok_holds] at hok
    obtain ⟨Fo, b, o', h2, h3, h4⟩ := hp.sub_win (R := R.ev e) e (Lst.op_esat hp hA h1 mx hx) ((Lst.op_root hA mx hx (List.mem_singleton_self _)).trans (Lst.root_gr h1 hR)) hh hL (okChk_holds hL hok)
    obtain ⟨A, cap, h5⟩ := win_val h3
    exact run h5 fun ty => run_len hu _ _ _ _

/-- indexAddr in an owned window. -/
def c_indexW (P : Program) (s : Lst E) (gs : Gs) (t : TypeId) (x y : Operand) : Option (OR E) :=
  match s.op gs x, s.op gs y with
  | some (.own r), some (.val (.int ik) i) => match s.root gs r with
    | some ⟨.win (.sl T e), .ow m, hv, z⟩ => if sliceOk P t T e then some ⟨some (inB i fun ε => (z ε).2), [(0, .loc r hv [.ix fun ε => (i ε).toNat])], [], 0⟩ else none
    | _ => none
  | some (.sub r hv p), some (.val (.int ik) i) => match s.root gs r with
    | some R => if R.hv = hv then match lens R.k R.m p with
      | some ⟨.win (.sl T e), .ow m, get, put, ok⟩ => if sliceOk P t T e then some ⟨andChk (okChk R p ⟨.win (.sl T e), .ow m, get, put, ok⟩) (some (inB i fun ε => (get ε (R.x ε)).2)), [(0, .loc r R.hv (p ++ [.ix fun ε => (i ε).toNat]))], [], 0⟩ else none
      | _ => none
      else none
    | none => none
  | _, _ => none
theorem snd_indexW {t : TypeId} {x y : Operand} {r : OR E} (ho : o.op = .indexAddr t x y) (h : c_indexW P s gs t x y = some r) : Snd P o s gs r := by
  unfold c_indexW at h
  have mx : x ∈ o.op.operands := by simp [ho, Op.operands]
  have my : y ∈ o.op.operands := by simp [ho, Op.operands]
  split at h <;> try (cases h; done)
  · rename_i r0 ik i hx hi
    split at h <;> try (cases h; done)
    rename_i T el m hv z hR
    split at h <;> try (cases h; done)
    rename_i ht
    obtain rfl := Option.some.inj h
    intro cx e g a w V Fp Q h1 hok hA hd hp
    have hy := Lst.op_esat hp hA h1 my hi
    rw [OR.ok_holds] at hok
    obtain ⟨b1, b2⟩ := inB_spec hok
    rw [evs_one, rtU_nil]
    have hr := (Lst.op_root hA mx hx (List.mem_singleton_self _)).trans (Lst.root_gr h1 hR)
    obtain ⟨hvv, hz⟩ := hp.own_win (Lst.op_esat hp hA h1 mx hx) hr
    obtain ⟨hu, hs⟩ := sliceOk_spec ht
    obtain ⟨z0, z1⟩ := win_cells hz
    rcases z1 with ⟨_, z1, _⟩ | ⟨b, cap, C, Fe, k3, k4, k5, k6, k7, k8⟩
    · have z1 : (z e).1 = [] := z1
      have z0 : (z e).2 ≤ (z e).1.length := z0
      rw [z1] at z0; exact absurd b2 (by simp at z0; omega)
    · have k3 : a.eval x = .slice (some ⟨b, 0, none⟩) (z e).2 cap := (List.cons.inj k3).1
      refine wp_val (v := .pointer (some ⟨b, 0 + (i e).toNat * el.size, none⟩)) (by simp only [execOp, ho, k3, hy.int, Sem.run_bind, run_indexAt_sl hu hs b 0 _ cap b1 b2, Result.andThen_ok]; rfl) (hp.pure hd (esat_loc hr ?_))
      show adr w (.win (.sl T el)) none (hdr (.win (.sl T el)) (V r0)) _ = _
      rw [← hvv, hdr_na rfl, k3]
      simp [Path.at, St.map, adr, k5, adr_nil]
  · rename_i r0 hv p ik i hx hi
    split at h <;> try (cases h; done)
    rename_i R hR
    split at h <;> try (cases h; done)
    rename_i hh
    split at h <;> try (cases h; done)
    rename_i T el m get put ok hL
    split at h <;> try (cases h; done)
    rename_i ht
    obtain rfl := Option.some.inj h
    intro cx e g a w V Fp Q h1 hok hA hd hp
    have hy := Lst.op_esat hp hA h1 my hi
    rw [OR.ok_holds] at hok
    obtain ⟨k1, k2⟩ := andChk_holds hok
    obtain ⟨b1, b2⟩ := inB_spec k2
    rw [evs_one, rtU_nil]
    have hr := (Lst.op_root hA mx hx (List.mem_singleton_self _)).trans (Lst.root_gr h1 hR)
    obtain ⟨Fo, b', o', h2, hz, h4⟩ := hp.sub_win (R := R.ev e) e (Lst.op_esat hp hA h1 mx hx) hr hh hL (okChk_holds hL k1)
    obtain ⟨hu, hs⟩ := sliceOk_spec ht
    obtain ⟨z0, z1⟩ := win_cells hz
    rcases z1 with ⟨_, z1, _⟩ | ⟨b, cap, C, Fe, k3, k4, k5, k6, k7, k8⟩
    · have z1 : (get e (R.x e)).1 = [] := z1
      have z0 : (get e (R.x e)).2 ≤ (get e (R.x e)).1.length := z0
      rw [z1] at z0; exact absurd b2 (by simp at z0; omega)
    · have k3 : a.eval x = .slice (some ⟨b, 0, none⟩) (get e (R.x e)).2 cap := (List.cons.inj k3).1
      refine wp_val (v := .pointer (some ⟨b, 0 + (i e).toNat * el.size, none⟩)) (by simp only [execOp, ho, k3, hy.int, Sem.run_bind, run_indexAt_sl hu hs b 0 _ cap b1 b2, Result.andThen_ok]; rfl) (hp.pure hd (esat_loc (R := R.ev e) hr ?_))
      rw [Path.at_append, h4, k3]
      simp [Path.at, St.map, adr, k5, adr_nil]

/-- x[:n] gives a window. -/
def c_sliceW (P : Program) (s : Lst E) (gs : Gs) (t : TypeId) (x hi : Operand) : Option (OR E) := match s.op gs hi with
  | some (.val (.int _) h) => match s.op gs x with
    | some (.val (.sl T el) xs) => if sliceOk P t T el then some ⟨some fun e => decide (0 ≤ h e) && decide ((h e).toNat ≤ List.length (xs e)), [(0, .val (.win (.sl T el)) fun e => (xs e, (h e).toNat))], [], 0⟩ else none
    | some (.val (.win (.sl T el)) z) => if sliceOk P t T el then some ⟨some fun e => decide (0 ≤ h e) && decide ((h e).toNat ≤ List.length (z e).1), [(0, .val (.win (.sl T el)) fun e => ((z e).1, (h e).toNat))], [], 0⟩ else none
    | some (.own r) => match s.root gs r with
      | some ⟨.sl T el, .ow m, _, xs⟩ => if sliceOk P t T el then
          some ⟨some fun e => decide (0 ≤ h e) && decide ((h e).toNat ≤ List.length (xs e)), [(0, .own s.nx)], [(s.nx, some ⟨.win (.sl T el), .ow m, 0, fun e => (xs e, (h e).toNat)⟩), (r, none)], 1⟩ else none
      | some ⟨.win (.sl T el), .ow m, _, z⟩ => if sliceOk P t T el then
          some ⟨some fun e => decide (0 ≤ h e) && decide ((h e).toNat ≤ List.length (z e).1), [(0, .own s.nx)], [(s.nx, some ⟨.win (.sl T el), .ow m, 0, fun e => ((z e).1, (h e).toNat)⟩), (r, none)], 1⟩ else none
      | _ => none
    | _ => none
  | _ => none

theorem run_cut {t T : TypeId} {e : Kt} (ht : sliceOk P t T e = true) {A : Option Addr} {n cap : Nat} {k : IntKind} {i : Int} (h0 : 0 ≤ i) (h1 : i.toNat ≤ cap) (w : World) :
    (Instr.sliceAt t (.slice A n cap) none (some (.int k i)) none).run P w = .ok (.slice A i.toNat cap) w := by
  obtain ⟨hu, hs⟩ := sliceOk_spec ht
  obtain ⟨inf, h5, h6⟩ := Option.map_eq_some_iff.1 hs
  have e1 : i ≤ (cap : Int) := by omega
  have hb : (Instr.sliceBounds true n cap none (some (.int k i)) none).run P w = .ok (0, i.toNat, cap) w := by
    simp [Instr.sliceBounds, Instr.sliceBound, asIntOf, h0, e1]
  simp [Instr.sliceAt, run_underlying hu, Instr.slice, hb, sizeOf, typeInfo, h5]
  intro _ 
  rcases A with _ | ⟨b, o, sp⟩
  · rfl
  · first | rfl | (cases sp <;> first | rfl | simp [Addr.add])

theorem snd_sliceW {t : TypeId} {x hi : Operand} {r : OR E} (ho : o.op = .slice t x none (some hi) none) (h : c_sliceW P s gs t x hi = some r) : Snd P o s gs r := by
  unfold c_sliceW at h
  have mx : x ∈ o.op.operands := by simp [ho, Op.operands]
  have mh : hi ∈ o.op.operands := by simp [ho, Op.operands]
  split at h <;> try (cases h; done)
  rename_i k h' hh
  have run : ∀ {a : Act} {w : World} {A : Option Addr} {n cap : Nat} {T : TypeId} {el : Kt} {i : Int}, a.eval x = .slice A n cap → a.eval hi = .int k i → sliceOk P t T el = true → 0 ≤ i → i.toNat ≤ cap → (execOp a.eval o).run P w = .ok (.value (.slice A i.toNat cap)) w := by
    intro a w A n cap T el i h1 h2 h3 h4 h5
    simp [execOp, ho, h1, h2, run_cut h3 h4 h5]
  split at h <;> try (cases h; done)
  · rename_i T el xs hx
    split at h <;> try (cases h; done)
    rename_i ht
    obtain rfl := Option.some.inj h
    refine Snd.value fun cx e g ac w V Fp h1 hok hA hp => ?_
    have hok : (decide (0 ≤ h' e) && decide ((h' e).toNat ≤ List.length (xs e))) = true := hok
    simp only [Bool.and_eq_true, decide_eq_true_eq] at hok
    obtain ⟨cs, c1, c2⟩ := Lst.op_esat hp hA h1 mx hx
    have c1 := (shows_na rfl).1 c1
    subst c1
    obtain ⟨A, cap, c3, ⟨c4, c4'⟩, _⟩ := (c2.2.resolve_left fun h => by cases h.1).2
    have c3 := (List.cons.inj c3).1
    refine ⟨_, run c3 (Lst.op_esat hp hA h1 mh hh).int ht hok.1 (Nat.le_trans hok.2 c4), [_], rfl, .inr ⟨by simp, A, _, cap, rfl, hok.2, ?_⟩⟩
    rw [c3] at c2
    exact c2
  · rename_i T el z hx
    split at h <;> try (cases h; done)
    rename_i ht
    obtain rfl := Option.some.inj h
    refine Snd.value fun cx e g ac w V Fp h1 hok hA hp => ?_
    have hok : (decide (0 ≤ h' e) && decide ((h' e).toNat ≤ List.length (z e).1)) = true := hok
    simp only [Bool.and_eq_true, decide_eq_true_eq] at hok
    obtain ⟨cs, c1, c2⟩ := Lst.op_esat hp hA h1 mx hx
    have c1 := (shows_na rfl).1 c1
    subst c1
    obtain ⟨_, A, n, cap, d1, d2, d3⟩ := c2.resolve_left fun h => by cases h.1
    have d1 := (List.cons.inj d1).1
    obtain ⟨A', cap', c3, ⟨c4, c4'⟩, _⟩ := (d3.2.resolve_left fun h => by cases h.1).2
    obtain ⟨rfl, hn, rfl⟩ := Value.slice.inj (List.cons.inj c3).1
    refine ⟨_, run d1 (Lst.op_esat hp hA h1 mh hh).int ht hok.1 (Nat.le_trans hok.2 c4), [_], rfl, .inr ⟨by simp, A, n, cap, rfl, ?_, d3⟩⟩
    rw [hn]; exact hok.2
  · rename_i r0 hx
    split at h <;> try (cases h; done)
    · rename_i T el m hv xs hR
      split at h <;> try (cases h; done)
      rename_i ht
      obtain rfl := Option.some.inj h
      intro cx e g ac w V Fp Q h1 hok hA hd hp
      have hok : (decide (0 ≤ h' e) && decide ((h' e).toNat ≤ List.length (xs e))) = true := hok
      simp only [Bool.and_eq_true, decide_eq_true_eq] at hok
      rw [evs_one, rtU_cons, rtU_cons, rtU_nil]
      have hrt : g.rt r0 = _ := (Lst.op_root hA mx hx (List.mem_singleton_self _)).trans (Lst.root_gr h1 hR)
      have hnew : g.rt s.nx = none := by have := hA.new 0 (by simp); simpa using this
      have hz := own_slice hp hrt (Lst.op_esat hp hA h1 mx hx)
      obtain ⟨A, cap, hv1, hc⟩ : ∃ A cap, ac.eval x = .slice A (xs e).length cap ∧ (xs e).length ≤ cap := by
        rcases hz with ⟨_, z1, z2⟩ | ⟨b, cap, C, Fe, z2, _, _, _, z3, _⟩
        · have z1 : xs e = [] := z1
          exact ⟨none, 0, by rw [z1]; exact (List.cons.inj z2).1, by rw [z1]; exact Nat.le_refl _⟩
        · exact ⟨_, cap, (List.cons.inj z2).1, z3.1⟩
      refine wp_val (run hv1 (Lst.op_esat hp hA h1 mh hh).int ht hok.1 (Nat.le_trans hok.2 hc)) (hp.renew hrt hnew (F := Fp r0) rfl rfl rfl (Nat.le_refl _) (fun _ _ _ => rfl) (fun b hb => .inl hb) (hp.mem.nodup r0) ((shows_na rfl).2 rfl) (fun Sh' hK => ?_) hd)
      rw [hv1] at hz
      exact .inr ⟨by simp, A, _, cap, rfl, hok.2, Rz_keep hK _ _ _ _ _ (fun _ _ => rfl) hz⟩
    · rename_i T el m hv z hR
      split at h <;> try (cases h; done)
      rename_i ht
      obtain rfl := Option.some.inj h
      intro cx e g ac w V Fp Q h1 hok hA hd hp
      have hok : (decide (0 ≤ h' e) && decide ((h' e).toNat ≤ List.length (z e).1)) = true := hok
      simp only [Bool.and_eq_true, decide_eq_true_eq] at hok
      rw [evs_one, rtU_cons, rtU_cons, rtU_nil]
      have hrt : g.rt r0 = _ := (Lst.op_root hA mx hx (List.mem_singleton_self _)).trans (Lst.root_gr h1 hR)
      have hnew : g.rt s.nx = none := by have := hA.new 0 (by simp); simpa using this
      obtain ⟨_, hz⟩ := hp.own_win (Lst.op_esat hp hA h1 mx hx) hrt
      obtain ⟨_, A, n, cap, hv1, hn, hz⟩ := hz.resolve_left fun h => by cases h.1
      have hv1 := (List.cons.inj hv1).1
      have hc : n = (z e).1.length ∧ n ≤ cap := by
        rcases hz with ⟨_, z1, z2⟩ | ⟨b, cap', C, Fe, z2, _, _, _, z3, _⟩
        · have z1 : (z e).1 = [] := z1
          obtain ⟨_, rfl, rfl⟩ := Value.slice.inj (List.cons.inj z2).1
          rw [z1]; exact ⟨rfl, Nat.le_refl _⟩
        · obtain ⟨_, rfl, rfl⟩ := Value.slice.inj (List.cons.inj z2).1
          exact ⟨rfl, z3.1⟩
      refine wp_val (run hv1 (Lst.op_esat hp hA h1 mh hh).int ht hok.1 (Nat.le_trans hok.2 (hc.1 ▸ hc.2))) (hp.renew hrt hnew (F := Fp r0) rfl rfl rfl (Nat.le_refl _) (fun _ _ _ => rfl) (fun b hb => .inl hb) (hp.mem.nodup r0) ((shows_na rfl).2 rfl) (fun Sh' hK => ?_) hd)
      refine .inr ⟨by simp, A, n, cap, rfl, ?_, Rz_keep hK _ _ _ _ _ (fun _ _ => rfl) hz⟩
      rw [hc.1]; exact hok.2
end
end Go.Lift

namespace Go.Lift
set_option linter.unusedVariables false
set_option linter.unusedSimpArgs false
section
variable {E : Type} {P : Program} {o : Oper} {s : Lst E} {gs : Gs}

theorem look_filter' {α β : Type} [DecidableEq α] (k : α) (p : α → Bool) : ∀ l : List (α × β), look k (l.filter fun q => p q.1) = if p k then look k l else none
  | [] => by simp [look]
  | (k', v) :: l => by
    rw [List.filter_cons]
    by_cases hk : k = k'
    · subst hk
      cases hp : p k with
      | true => simp [look]
      | false =>
        have := look_filter' k p l
        rw [hp] at this
        simpa [look] using this
    · cases hp : p k' with
      | true => simp only [if_true, look, if_neg hk]; exact look_filter' k p l
      | false =>
        simp only [look, if_neg hk]
        exact look_filter' k p l
theorem look_append' {α β : Type} [DecidableEq α] (k : α) : ∀ l l' : List (α × β), look k (l ++ l') = match look k l with | some v => some v | none => look k l'
  | [], l' => rfl
  | (k', v) :: l, l' => by
    simp only [List.cons_append, look]
    split
    · rfl
    · exact look_append' k l l'

/-- What an operation yields, seen as a window. -/
def asWin (r : OR E) : OR E := match r.es with
  | [(0, .own q)] => match look q r.ru with
    | some (some ⟨.sl T e, .ow m, hv, f⟩) => ⟨r.chk, [(0, .own q)], (q, some ⟨.win (.sl T e), .ow m, hv, fun ε => (f ε, (f ε).length)⟩) :: r.ru.filter (fun x => !(q == x.1)), r.n⟩
    | _ => r
  | _ => r
theorem snd_asWin {r : OR E} (h : Snd P o s gs r) : Snd P o s gs (asWin r) := by
  unfold asWin
  split
  · rename_i q hes
    split
    · rename_i T el m hv f hq
      intro cx e g a w V Fp Q h1 hok hA hd hp
      refine Oper.wp_mono (fun a' w' hg => ?_) (h cx e g a w V Fp Q h1 hok hA hd hp)
      rw [hes] at hg
      have hrt : (g.put o.dst (evs [(0, .own q)] e) (rtU g.rt r.ru e)).rt q = some (some ⟨.sl T el, .ow m, hv, f e⟩) := by
        show rtU g.rt r.ru e q = _
        simp only [rtU, hq]; rfl
      have hg := hg.conv (k2 := .win (.sl T el)) (x2 := ((f e, (f e).length) : List el.T × Nat)) hrt (conv_win rfl)
      have : upd (g.put o.dst (evs [(0, .own q)] e) (rtU g.rt r.ru e)).rt q (some (some ⟨.win (.sl T el), .ow m, hv, (f e, (f e).length)⟩)) = rtU g.rt ((q, some ⟨.win (.sl T el), .ow m, hv, fun ε => (f ε, (f ε).length)⟩) :: r.ru.filter (fun x => !(q == x.1))) e := by
        rw [rtU_cons]
        funext z
        by_cases hz : z = q
        · subst hz; rw [upd_same, upd_same]; rfl
        · rw [upd_ne _ _ hz, upd_ne _ _ hz]
          show rtU g.rt r.ru e z = _
          simp only [rtU]
          have := look_filter' z (fun y : Nat => !(q == y)) r.ru
          rw [this]
          have : (!(q == z)) = true := by simpa using fun h => hz h.symm
          rw [this]
          rfl
      rw [this] at hg
      exact hg
    · exact h
  · exact h

/-- A window of which all is in sight, seen as a slice ahead of an operation. -/
def unW (s : Lst E) (gs : Gs) (x : Operand) : Option (Lst E × (E → Bool) × Nat) := match s.op gs x with
  | some (.own r) => match s.root gs r with
    | some ⟨.win (.sl T e), .ow m, hv, z⟩ => some (⟨s.tm, (r, (gs, some ⟨.sl T e, .ow m, hv, fun ε => (z ε).1⟩)) :: s.rt, s.nx⟩, fun ε => decide ((z ε).2 = (z ε).1.length), r)
    | _ => none
  | _ => none
def withW (x : Operand) (gs : Gs) (f : Lst E → Option (OR E)) (s : Lst E) : Option (OR E) := match f s with
  | some r => some r
  | none => match unW s gs x with
    | some (s', chk, r0) => match f s' with
      | some r => if (look r0 r.ru).isSome then some ⟨andChk (some chk) r.chk, r.es, r.ru, r.n⟩ else none
      | none => none
    | none => none

theorem snd_withW {x : Operand} {f : Lst E → Option (OR E)} (hf : ∀ s r, f s = some r → Snd P o s gs r) (mx : x ∈ o.op.operands) {r : OR E} (h : withW x gs f s = some r) : Snd P o s gs r := by
  unfold withW at h
  split at h
  · rename_i q hq
    obtain rfl := Option.some.inj h
    exact hf _ _ hq
  split at h <;> try (cases h; done)
  rename_i s' chk r0 hs'
  split at h <;> try (cases h; done)
  rename_i r1 hr1
  split at h <;> try (cases h; done)
  rename_i hlk
  obtain rfl := Option.some.inj h
  unfold unW at hs'
  split at hs' <;> try (cases hs'; done)
  rename_i r0' hx
  split at hs' <;> try (cases hs'; done)
  rename_i T el m hv z hR
  obtain ⟨hs1, hs2⟩ := Prod.mk.inj (Option.some.inj hs')
  obtain ⟨hs3, hs4⟩ := Prod.mk.inj hs2
  subst hs1 hs3 hs4
  intro cx e g a w V Fp Q h1 hok hA hd hp
  rw [OR.ok_holds] at hok
  obtain ⟨k1, k2⟩ := andChk_holds hok
  have k1 : decide ((z e).2 = (z e).1.length) = true := k1
  simp only [decide_eq_true_eq] at k1
  have hrt : g.rt r0' = some (some ⟨.win (.sl T el), .ow m, hv, z e⟩) := (Lst.op_root hA mx hx (List.mem_singleton_self _)).trans (Lst.root_gr h1 hR)
  have hp' := hp.conv hrt (conv_unwin k1)
  have hon : ∀ gs' e, (⟨s.tm, (r0', (gs, some ⟨.sl T el, .ow m, hv, fun ε => (z ε).1⟩)) :: s.rt, s.nx⟩ : Lst E).on gs' e = s.on gs' e := fun _ _ => rfl
  have hA' : Agree ⟨g.tm, upd g.rt r0' (some (some ⟨.sl T el, .ow m, hv, (z e).1⟩))⟩ (⟨s.tm, (r0', (gs, some ⟨.sl T el, .ow m, hv, fun ε => (z ε).1⟩)) :: s.rt, s.nx⟩ : Lst E) e (opTmps o) r1.n := by
    refine ⟨fun t ht i => hA.tm t ht i, fun q hq => ?_, fun i hi => ?_⟩
    · by_cases hqr : q = r0'
      · subst hqr
        show upd g.rt q _ q = _
        rw [upd_same]
        show _ = (match look q ((q, (gs, some ⟨.sl T el, .ow m, hv, fun ε => (z ε).1⟩)) :: s.rt) with | some y => if s.on y.1 e = true then some (y.2.map (Root.ev e)) else none | none => none)
        simp only [look, if_true, h1]
        rfl
      · show upd g.rt r0' _ q = _
        rw [upd_ne _ _ hqr, hA.rt q hq]
        show (match look q s.rt with | some y => if s.on y.1 e = true then some (y.2.map (Root.ev e)) else none | none => none) = (match look q ((r0', (gs, some ⟨.sl T el, .ow m, hv, fun ε => (z ε).1⟩)) :: s.rt) with | some y => if s.on y.1 e = true then some (y.2.map (Root.ev e)) else none | none => none)
        simp only [look, if_neg hqr]
    · have := hA.new i hi
      show upd g.rt r0' _ (s.nx + i) = none
      rw [upd_ne]
      · exact this
      · intro hc
        rw [hc, hrt] at this
        cases this
  have := hf _ _ hr1 cx e _ a w V Fp Q h1 (by rw [OR.ok_holds]; exact k2) hA' hd hp'
  refine Oper.wp_mono (fun a' w' hg => ?_) this
  have hrr : rtU (upd g.rt r0' (some (some ⟨.sl T el, .ow m, hv, (z e).1⟩))) r1.ru e = rtU g.rt r1.ru e := by
    funext q
    simp only [rtU]
    cases hq : look q r1.ru with
    | some y => rfl
    | none =>
      have : q ≠ r0' := fun h => by rw [h] at hq; rw [hq] at hlk; cases hlk
      simp only []
      exact upd_ne _ _ this
  show GSat cx (g.put o.dst (evs r1.es e) (rtU g.rt r1.ru e)) a' w'
  rw [← hrr]
  exact hg

/-- A part taken out ahead of an operation. -/
def takeW (s : Lst E) (gs : Gs) (x : Operand) : Option (Lst E × (E → Bool) × List (Nat × Option (Root E)) × Nat) := match x with
  | .tmp t => match s.at gs (t, 0) with
    | some (.sub r hv p) => match s.root gs r with
      | some R => if R.hv = hv ∧ R.m.isOw = true then match lens R.k R.m p with
        | some L => if L.k'.isAgg = false ∧ L.k'.size = 1 then match mset R.k R.m p.sh .ho with
          | some mr =>
            let ru : List (Nat × Option (Root E)) := [(s.nx, some ⟨L.k', L.m', 0, fun ε => L.get ε (R.x ε)⟩), (r, some ⟨R.k, mr, R.hv + 1, fun ε => L.put ε (R.x ε) (L.get ε (R.x ε))⟩)]
            some (⟨((t, 0), ⟨gs, .own s.nx⟩) :: s.tm, ru.map (fun q => (q.1, (gs, q.2))) ++ s.rt, s.nx + 1⟩, fun ε => L.ok ε (R.x ε), ru, r)
          | none => none
          else none
        | none => none
        else none
      | none => none
    | _ => none
  | _ => none
def withT (x : Operand) (gs : Gs) (f : Lst E → Option (OR E)) (s : Lst E) : Option (OR E) := match f s with
  | some r => some r
  | none => match takeW s gs x with
    | some (s', chk, ru, r0) => match f s' with
      | some r => if (look r0 r.ru).isNone then some ⟨andChk (some chk) r.chk, r.es, r.ru ++ ru, r.n + 1⟩ else none
      | none => none
    | none => none

theorem snd_withT {x : Operand} {f : Lst E → Option (OR E)} (hf : ∀ s r, f s = some r → Snd P o s gs r) (mx : x ∈ o.op.operands) {r : OR E} (h : withT x gs f s = some r) : Snd P o s gs r := by
  unfold withT at h
  split at h
  · rename_i q hq
    obtain rfl := Option.some.inj h
    exact hf _ _ hq
  split at h <;> try (cases h; done)
  rename_i s' chk ru r0 hs'
  split at h <;> try (cases h; done)
  rename_i r1 hr1
  split at h <;> try (cases h; done)
  rename_i hlk
  obtain rfl := Option.some.inj h
  unfold takeW at hs'
  split at hs' <;> try (cases hs'; done)
  rename_i t
  split at hs' <;> try (cases hs'; done)
  rename_i r0' hv p hx
  split at hs' <;> try (cases hs'; done)
  rename_i R hR
  split at hs' <;> try (cases hs'; done)
  rename_i hc
  split at hs' <;> try (cases hs'; done)
  rename_i L hL
  split at hs' <;> try (cases hs'; done)
  rename_i hk
  split at hs' <;> try (cases hs'; done)
  rename_i mr hms
  obtain ⟨hs1, hs2⟩ := Prod.mk.inj (Option.some.inj hs')
  obtain ⟨hs3, hs4⟩ := Prod.mk.inj hs2
  obtain ⟨hs5, hs6⟩ := Prod.mk.inj hs4
  subst hs1 hs3 hs5 hs6
  obtain ⟨rfl, how⟩ := hc
  intro cx e g a w V Fp Q h1 hok hA hd hp
  rw [OR.ok_holds] at hok
  obtain ⟨k1, k2⟩ := andChk_holds hok
  have k1 : L.ok e (R.x e) = true := k1
  have ht : t ∈ opTmps o := mem_opTmps mx rfl
  have hen := Lst.at_gr hx h1
  rw [← hA.tm t ht 0] at hen
  have hrs : r0' ∈ s.rootsOf (opTmps o) := Lst.at_roots hx ht _ (List.mem_singleton_self _)
  have hrt : g.rt r0' = some (some (R.ev e)) := (hA.rt r0' hrs).trans (Lst.root_gr h1 hR)
  have how' : ∃ m1, (R.ev e).m = .ow m1 := by
    show ∃ m1, R.m = .ow m1
    cases hm : R.m <;> rw [hm] at how <;> first | exact ⟨_, rfl⟩ | cases how
  have hnew : g.rt s.nx = none := by have := hA.new 0 (by simp); simpa using this
  have hne : r0' ≠ s.nx := fun h => by rw [h, hnew] at hrt; cases hrt
  obtain ⟨V', Fp', hp'⟩ := hp.takeOut (R := R.ev e) e hen hrt how' hL k1 hk hms hnew
  -- the guards
  have hgv : ∀ t', (⟨((t, 0), ⟨gs, .own s.nx⟩) :: s.tm, [(s.nx, (gs, some ⟨L.k', L.m', 0, fun ε => L.get ε (R.x ε)⟩)), (r0', (gs, some ⟨R.k, mr, R.hv + 1, fun ε => L.put ε (R.x ε) (L.get ε (R.x ε))⟩))] ++ s.rt, s.nx + 1⟩ : Lst E).gval t' = s.gval t' := by
    intro t'
    unfold Lst.gval
    simp only [look]
    by_cases htt : t' = t
    · subst htt
      rw [if_pos rfl]
      unfold Lst.at at hx
      split at hx <;> try (cases hx; done)
      rename_i sl hsl
      split at hx <;> try (cases hx; done)
      rw [hsl]
      obtain ⟨sg, se⟩ := sl
      have hx : se = _ := Option.some.inj hx
      subst hx
      rfl
    · rw [if_neg (fun h => htt (Prod.mk.inj h).1)]
  have hon : ∀ gs' : Gs, (⟨((t, 0), ⟨gs, .own s.nx⟩) :: s.tm, [(s.nx, (gs, some ⟨L.k', L.m', 0, fun ε => L.get ε (R.x ε)⟩)), (r0', (gs, some ⟨R.k, mr, R.hv + 1, fun ε => L.put ε (R.x ε) (L.get ε (R.x ε))⟩))] ++ s.rt, s.nx + 1⟩ : Lst E).on gs' e = s.on gs' e := by
    intro gs'
    unfold Lst.on
    congr 1
    funext q
    rw [hgv]
  have hA' : Agree ⟨fun q => if q = (t, 0) then some (.own s.nx) else g.tm q, upd (upd g.rt r0' (some (some ⟨R.k, mr, R.hv + 1, L.put e (R.x e) (L.get e (R.x e))⟩))) s.nx (some (some ⟨L.k', L.m', 0, L.get e (R.x e)⟩))⟩
      (⟨((t, 0), ⟨gs, .own s.nx⟩) :: s.tm, [(s.nx, (gs, some ⟨L.k', L.m', 0, fun ε => L.get ε (R.x ε)⟩)), (r0', (gs, some ⟨R.k, mr, R.hv + 1, fun ε => L.put ε (R.x ε) (L.get ε (R.x ε))⟩))] ++ s.rt, s.nx + 1⟩ : Lst E) e (opTmps o) r1.n := by
    refine ⟨fun t' ht' i => ?_, fun q hq => ?_, fun i hi => ?_⟩
    · unfold Lst.gr
      simp only [hon, look]
      by_cases hq : (t', i) = (t, 0)
      · rw [if_pos hq, if_pos hq]
        simp only [h1, if_true]
        rfl
      · rw [if_neg hq, if_neg hq]
        have := hA.tm t' ht' i
        unfold Lst.gr at this
        exact this
    · unfold Lst.gr
      simp only [hon]
      simp only [List.cons_append, List.nil_append, look]
      by_cases hq1 : q = s.nx
      · subst hq1
        rw [upd_same, if_pos rfl]
        simp only [h1, if_true]
        rfl
      · rw [upd_ne _ _ hq1, if_neg hq1]
        by_cases hq2 : q = r0'
        · subst hq2
          rw [upd_same, if_pos rfl]
          simp only [h1, if_true]
          rfl
        · rw [upd_ne _ _ hq2, if_neg hq2]
          have hq' : q ∈ s.rootsOf (opTmps o) := by
            unfold Lst.rootsOf at hq ⊢
            rw [List.flatMap_cons] at hq
            rcases List.mem_append.1 hq with hq | hq
            · split at hq
              · simp only [Ent.roots, List.mem_singleton] at hq
                exact absurd hq hq1
              · cases hq
            · exact hq
          have := hA.rt q hq'
          unfold Lst.gr at this
          exact this
    · have h0 := hA.new (i + 1) (by show i + 1 < r1.n + 1; omega)
      have e1 : s.nx + 1 + i = s.nx + (i + 1) := by omega
      show upd _ s.nx _ (s.nx + 1 + i) = none
      rw [upd_ne _ _ (by omega), upd_ne]
      · rw [e1]; exact h0
      · intro hc
        rw [e1] at hc
        rw [hc, hrt] at h0
        cases h0
  have := hf _ _ hr1 cx e _ a w V' Fp' Q ((hon gs).trans h1) (by rw [OR.ok_holds]; exact k2) hA' hd hp'
  refine Oper.wp_mono (fun a' w' hg => ?_) this
  have hrr : rtU (upd (upd g.rt r0' (some (some ⟨R.k, mr, R.hv + 1, L.put e (R.x e) (L.get e (R.x e))⟩))) s.nx (some (some ⟨L.k', L.m', 0, L.get e (R.x e)⟩))) r1.ru e =
      rtU g.rt (r1.ru ++ [(s.nx, some ⟨L.k', L.m', 0, fun ε => L.get ε (R.x ε)⟩), (r0', some ⟨R.k, mr, R.hv + 1, fun ε => L.put ε (R.x ε) (L.get ε (R.x ε))⟩)]) e := by
    funext q
    simp only [rtU]
    rw [look_append']
    cases hq : look q r1.ru with
    | some y => rfl
    | none =>
      simp only [look]
      by_cases hq1 : q = s.nx
      · subst hq1
        rw [upd_same, if_pos rfl]; rfl
      · rw [upd_ne _ _ hq1, if_neg hq1]
        by_cases hq2 : q = r0'
        · subst hq2
          rw [upd_same, if_pos rfl]; rfl
        · rw [upd_ne _ _ hq2, if_neg hq2]
  show GSat cx (g.put o.dst (evs r1.es e) (rtU g.rt (r1.ru ++ _) e)) a' w'
  rw [← hrr]
  obtain ⟨g1, g2, V2, Fp2, g3, g4⟩ := hg
  refine ⟨g1, g2, V2, Fp2, g3, fun t' i ent he => ?_⟩
  by_cases hq : (t', i) = (t, 0)
  · obtain ⟨rfl, rfl⟩ := Prod.mk.inj hq
    by_cases hdt : some t' = o.dst
    · refine g4 t' 0 ent ?_
      simp only [G.put] at he ⊢
      rw [if_pos hdt] at he ⊢
      exact he
    · simp only [G.put] at he
      rw [if_neg hdt, hen] at he
      obtain rfl := Option.some.inj he
      obtain ⟨v, u, i1, i2, i3⟩ := g4 t' 0 (.own s.nx) (by
        simp only [G.put]
        rw [if_neg hdt]
        simp)
      refine ⟨v, u, i1, i2, some ⟨R.k, mr, R.hv + 1, L.put e (R.x e) (L.get e (R.x e))⟩, ?_, fun R' hR' => ?_⟩
      · show rtU _ r1.ru e r0' = _
        simp only [rtU]
        have : look r0' r1.ru = none := by
          cases hl : look r0' r1.ru with
          | none => rfl
          | some y => rw [hl] at hlk; cases hlk
        rw [this]
        simp only []
        rw [upd_ne _ _ hne, upd_same]
      · obtain rfl := Option.some.inj hR'
        exact ⟨Nat.le_succ _, fun hc => absurd hc (by show ¬ (R.hv + 1 = R.hv); omega)⟩
  · refine g4 t' i ent ?_
    simp only [G.put] at he ⊢
    split at he
    · rename_i hdt; rw [if_pos hdt]; exact he
    · rename_i hdt; rw [if_neg hdt, if_neg hq]; exact he
end
end Go.Lift

namespace Go.Lift
open Go.MapKept
set_option linter.unusedVariables false
set_option linter.unusedSimpArgs false

/-! ### cap: a number known from below -/
section
variable {E : Type} {P : Program} {o : Oper} {s : Lst E} {gs : Gs}
def c_cap (P : Program) (s : Lst E) (gs : Gs) (t : TypeId) (x : Operand) : Option (OR E) := if isSlice P t then match s.op gs x with
  | some (.val (.win (.sl _ _)) z) => some ⟨none, [(0, .atl fun e => ((List.length (z e).1 : Nat) : Int))], [], 0⟩
  | some (.val (.sl _ _) z) => some ⟨none, [(0, .atl fun e => ((List.length (z e) : Nat) : Int))], [], 0⟩
  | _ => none
  else none
theorem snd_cap {t : TypeId} {x : Operand} {r : OR E} (ho : o.op = .call { callee := .builtin .cap, args := #[x], argTypes := #[t] }) (h : c_cap P s gs t x = some r) : Snd P o s gs r := by
  unfold c_cap at h
  have mx : x ∈ o.op.operands := by simp [ho, Op.operands, Call.operands]
  split at h <;> try (cases h; done)
  rename_i ht
  obtain ⟨T', hu⟩ := isSlice_spec ht
  have run : ∀ {a : Act} {w : World} {A : Option Addr} {n c : Nat}, a.eval x = .slice A n c → (execOp a.eval o).run P w = .ok (.value (.int .i64 c)) w := by
    intro a w A n c h1
    simp only [execOp, ho, resolve, Sem.run_bind, invoke, builtin]
    simp [h1, Builtin.cap_, run_underlying hu, goInt]
  split at h <;> try (cases h; done)
  · rename_i T k z hx
    obtain rfl := Option.some.inj h
    refine Snd.value fun cx e g a w V Fp h1 hok hA hp => ?_
    obtain ⟨cs, c1, c2⟩ := Lst.op_esat hp hA h1 mx hx
    have c1 := (shows_na rfl).1 c1
    obtain ⟨_, A, n, cap, c3, hn, hz⟩ := c2.resolve_left fun h => by cases h.1
    obtain ⟨A', cap', c4, hcap, _⟩ := (hz.2.resolve_left fun h => by cases h.1).2
    obtain ⟨rfl, hn', rfl⟩ := Value.slice.inj (List.cons.inj c4).1
    rw [c3] at c1
    refine ⟨_, run (List.cons.inj c1).1.symm, (cap : Int), rfl, ?_⟩
    exact Int.ofNat_le.2 hcap.1
  · rename_i T k z hx
    obtain rfl := Option.some.inj h
    refine Snd.value fun cx e g a w V Fp h1 hok hA hp => ?_
    obtain ⟨A, cap, c3, hcap, _⟩ := (Lst.op_esat hp hA h1 mx hx).sl
    exact ⟨_, run c3, (cap : Int), rfl, Int.ofNat_le.2 hcap.1⟩
/-- What a number known from below decides. -/
def atlF (op : BinOp) : Option ((Int → Int → Bool) × Bool) := match op with
  | .leq => some (fun a b => decide (a > b), false)
  | .lss => some (fun a b => decide (a ≥ b), false)
  | .gtr => some (fun a b => decide (a > b), true)
  | .geq => some (fun a b => decide (a ≥ b), true)
  | _ => none
def c_binA (s : Lst E) (gs : Gs) (op : BinOp) (x y : Operand) : Option (OR E) := match s.op gs x, s.op gs y, atlF op with
  | some (.atl a), some (.val (.int .i64) b), some (f, r) => some (cValIf (fun e => f (a e) (b e)) (.val .bool fun _ => r))
  | _, _, _ => none
theorem snd_binA {op : BinOp} {t t' : TypeId} {x y : Operand} {r : OR E} (ho : o.op = .binOp op t x y t') (h : c_binA s gs op x y = some r) : Snd P o s gs r := by
  unfold c_binA at h
  have mx : x ∈ o.op.operands := by simp [ho, Op.operands]
  have my : y ∈ o.op.operands := by simp [ho, Op.operands]
  split at h <;> try (cases h; done)
  rename_i a b f rr hx hy hf
  obtain rfl := Option.some.inj h
  refine Snd.value fun cx e g ac w V Fp h1 hok hA hp => ?_
  have hok : f (a e) (b e) = true := hok
  obtain ⟨n, hv, hn⟩ := Lst.op_esat hp hA h1 mx hx
  have hb := (Lst.op_esat hp hA h1 my hy).int
  have key : ∀ {g' : Int → Int → Bool}, cmpF op = some g' → g' n (b e) = rr → ∃ v, (execOp ac.eval o).run P w = .ok (.value v) w ∧ ESat cx g.rt V Fp w (Ent.ev e (.val .bool fun _ => rr)) v := by
    intro g' h2 h3
    refine ⟨.bool rr, ?_, esat_bool _⟩
    simp [execOp, ho, hv, hb, eqGuard_int, run_cmp h2, h3]
  unfold atlF at hf
  split at hf <;> try (cases hf; done)
  all_goals
    obtain ⟨rfl, rfl⟩ := Prod.mk.inj (Option.some.inj hf)
    have hok : _ := of_decide_eq_true hok
    refine key rfl ?_
    first
    | exact decide_eq_false (by omega)
    | exact decide_eq_true (by omega)
end

/-! ### maps -/
def scEq : (k : Kt) → k.T → k.T → Bool
  | .int _, a, b => (a : Int) == b
  | .bool, a, b => (a : Bool) == b
  | .str, a, b => (a : ByteArray) == b
  | _, _, _ => false
/-- The first place of a key. -/
def mfind (a b : Kt) (k : a.T) : List (a.T × b.T) → Option (Nat × b.T)
  | [] => none
  | q :: l => if scEq a k q.1 = true then some (0, q.2) else (mfind a b k l).map fun q => (q.1 + 1, q.2)
def mget (a b : Kt) (k : a.T) (x : Option (List (a.T × b.T))) : Option b.T := match x with
  | some l => (mfind a b k l).map (·.2)
  | none => none
def mput (a b : Kt) (k : a.T) (v : b.T) (l : List (a.T × b.T)) : List (a.T × b.T) := match mfind a b k l with
  | some q => l.set q.1 (k, v)
  | none => l ++ [(k, v)]
def mdel (a b : Kt) (k : a.T) (l : List (a.T × b.T)) : List (a.T × b.T) := match mfind a b k l with
  | some q => l.eraseIdx q.1
  | none => l
/-- A key's kind is its type's. -/
def keyOk (P : Program) (t : TypeId) (a : Kt) : Bool := match P.underlying t, a with
  | some (.int k), .int k' => k == k'
  | some .bool, .bool => true
  | some .string, .str => true
  | _, _ => false
theorem keyOk_spec {P : Program} {t : TypeId} {a : Kt} (h : keyOk P t a = true) : ∃ d, P.underlying t = some d ∧ (∀ k : a.T, IsKey d (scV a k)) ∧ ∀ k q : a.T, Instr.sameNow d (scV a k) (scV a q) = some (scEq a k q) := by
  unfold keyOk at h
  split at h <;> try (cases h; done)
  · rename_i k k' hu
    obtain rfl : k = k' := by simpa using h
    exact ⟨_, hu, fun _ => rfl, fun x y => by simp [Instr.sameNow, scV, scEq]⟩
  · rename_i hu
    exact ⟨_, hu, fun _ => trivial, fun x y => by simp [Instr.sameNow, scV, scEq]⟩
  · rename_i hu
    exact ⟨_, hu, fun _ => trivial, fun x y => by simp [Instr.sameNow, scV, scEq]⟩
theorem findNow_at {P : Program} {d : TypeDesc} {a b : Kt} (hs : ∀ k q : a.T, Instr.sameNow d (scV a k) (scV a q) = some (scEq a k q)) (k : a.T) : ∀ (l : List (a.T × b.T)) (es : List MapEntry) (i : Nat), es.map (fun e => (e.key, e.val)) = l.map (fun q => (scV a q.1, scV b q.2)) →
    Instr.findNow d (scV a k) es i = some ((mfind a b k l).map fun q => (i + q.1, scV b q.2))
  | [], es, i, h => by
    have : es = [] := by simpa using h
    subst this; rfl
  | q :: l, [], i, h => by simp at h
  | q :: l, e :: es, i, h => by
    simp only [List.map_cons, List.cons.injEq, Prod.mk.injEq] at h
    obtain ⟨⟨h1, h2⟩, h3⟩ := h
    simp only [Instr.findNow, h1, hs, mfind]
    cases hq : scEq a k q.1 with
    | true => simp [h2]
    | false =>
      simp only [Bool.false_eq_true, if_false]
      rw [findNow_at (P := P) hs k l es (i + 1) h3]
      cases mfind a b k l <;> simp; omega
theorem mfind_lt {a b : Kt} {k : a.T} : ∀ {l : List (a.T × b.T)} {q : Nat × b.T}, mfind a b k l = some q → q.1 < l.length
  | [], q, h => by cases h
  | p :: l, q, h => by
    simp only [mfind] at h
    split at h
    · obtain rfl := Option.some.inj h; simp
    · obtain ⟨q', h1, rfl⟩ := Option.map_eq_some_iff.1 h
      have := mfind_lt h1
      simp; omega

section
variable {P : Program} {cx : Cx} {g : G} {a : Act} {w : World} {V : Nat → Value} {Fp : Nat → List Nat} {o : Oper} {Q : Exit → Act → World → Prop}

/-- Blocks of a root are changed, its header stands. -/
theorem Pre.touch (h : Pre cx g a w V Fp) {r : Nat} {R : GRoot} (hr : g.rt r = some (some R)) (how : ∃ m1, R.m = .ow m1) {w' : World} (hos : w'.os = w.os) (htape : w'.tape = w.tape) (hout : w'.output = w.output) (hsz : w.heap.size ≤ w'.heap.size)
    (hfr : ∀ b, b < w.heap.size → b ∉ Fp r → w'.heap[b]? = w.heap[b]?) {x' : R.k.T} (hz : ∀ Sh', Kp w (cx.Sh Fp) w' Sh' → ∃ cs, Shows R.k (V r) cs ∧ Rz w' Sh' R.k R.m (Fp r) x' cs)
    (hsh : ∀ b ∈ Fp r, ∀ C T f, w.heap[b]? = some (.cells C T f) → ∃ C', w'.heap[b]? = some (.cells C' T f)) :
    GSat cx ⟨g.tm, upd g.rt r (some (some ⟨R.k, R.m, R.hv + 1, x'⟩))⟩ a w' := by
  obtain ⟨csr, hsr, hzr⟩ := h.mem.roots r R hr
  have hst : Step cx g.rt (upd g.rt r (some (some ⟨R.k, R.m, R.hv + 1, x'⟩))) V V Fp Fp w w' (fun s => s = r) := by
    refine ⟨hos, htape, hout, hsz, fun b hb hs => hfr b hb (hs r rfl), fun s hs => ⟨upd_ne _ _ hs, rfl, rfl⟩, fun s hs b hb => .inr ⟨s, hs, hb⟩, fun s hs => h.mem.nodup s, fun s s' hs hs' hne => absurd (hs.trans hs'.symm) hne, fun s hs hn => ?_, fun s R' hs hR hK => ?_, fun s hs => ?_⟩
    · subst hs
      rw [upd_same] at hn
      exact absurd rfl (hn _)
    · subst hs
      rw [upd_same] at hR
      obtain rfl := Option.some.inj (Option.some.inj hR)
      exact hz _ hK
    · subst hs
      rw [hr, upd_same]
      refine .inr ⟨R.m, _, _, rfl, rfl, .inr ⟨Nat.lt_succ_self _, fun _ _ => how, fun p hp => ?_⟩⟩
      rw [shows_hdr hsr]
      obtain ⟨m1, hm1⟩ := how
      exact adr_shal hp (by rw [hm1]; exact shal_vp hp) hzr hsh
  refine ⟨h.defers, h.size, V, Fp, hst.mem h.mem, fun t i ent he => ?_⟩
  obtain ⟨v, u, h1, h2, h3⟩ := h.ents t i ent he
  exact ⟨v, u, h1, h2, hst.esat h.mem h3⟩

/-- A map's block. -/
theorem heap_setB {w : World} {b : Nat} {o o' : Obj} (hb : w.heap[b]? = some o) : ({ w with heap := w.heap.setIfInBounds b o' } : World).heap[b]? = some o' ∧ ∀ r', r' ≠ b → ({ w with heap := w.heap.setIfInBounds b o' } : World).heap[r']? = w.heap[r']? := heap_set hb

/-- What stands in an owned map's place: its value, and what follows of a change of its block. -/
structure MapIn (cx : Cx) (g : G) (a : Act) (w : World) (V : Nat → Value) (Fp : Nat → List Nat) (r : Nat) (R : GRoot) (ka kb : Kt) (v : Value) (x : Option (List (ka.T × kb.T))) (put : Option (List (ka.T × kb.T)) → R.k.T) : Prop where
  how : ∃ m1, R.m = .ow m1
  none : x = none → v = .map none
  some : ∀ l, x = some l → ∃ b es ck, v = .map (some b) ∧ w.heap[b]? = some (.map es ck) ∧ es.toList.map (fun e => (e.key, e.val)) = l.map (fun q => (scV ka q.1, scV kb q.2)) ∧
    ∀ es' ck' l', es'.toList.map (fun e => (e.key, e.val)) = l'.map (fun q => (scV ka q.1, scV kb q.2)) → GSat cx ⟨g.tm, upd g.rt r (some (some ⟨R.k, R.m, R.hv + 1, put (some l')⟩))⟩ a { w with heap := w.heap.setIfInBounds b (.map es' ck') }

theorem Pre.map_own (h : Pre cx g a w V Fp) {r : Nat} {ka kb : Kt} {m : Mk} {hv : Nat} {x : Option (List (ka.T × kb.T))} {v : Value} (hr : g.rt r = some (some ⟨.map ka kb, .ow m, hv, x⟩)) (hx : ESat cx g.rt V Fp w (.own r) v) : MapIn cx g a w V Fp r ⟨.map ka kb, .ow m, hv, x⟩ ka kb v x id := by
  obtain ⟨R0, h1, h2⟩ := hx
  rw [hr] at h1
  obtain rfl := Option.some.inj h1
  have hvv := h2 (by simp)
  obtain ⟨cs, z1, z2⟩ := h.mem.roots r _ hr
  have z1 := (shows_na rfl).1 z1
  subst z1
  refine ⟨⟨_, rfl⟩, fun hn => ?_, fun l hl => ?_⟩
  · rcases z2 with ⟨_, _, z3⟩ | ⟨g0, es, ck, l, z3, _⟩
    · exact hvv.trans (List.cons.inj z3).1
    · have z3 : x = some l := z3
      rw [hn] at z3; cases z3
  · rcases z2 with ⟨z3, _⟩ | ⟨g0, es, ck, l0, z3, z4, z5, z6, z7⟩
    · have z3 : x = none := z3
      rw [hl] at z3; cases z3
    · have z3 : x = some l0 := z3
      obtain rfl := Option.some.inj (z3.symm.trans hl)
      refine ⟨g0, es, ck, hvv.trans (List.cons.inj z4).1, z6, z7, fun es' ck' l' hl' => ?_⟩
      obtain ⟨s1, s2⟩ := heap_setB (o' := .map es' ck') z6
      refine h.touch (w' := { w with heap := w.heap.setIfInBounds g0 (.map es' ck') }) hr ⟨_, rfl⟩ rfl rfl rfl (by simp) (fun b hb hnb => s2 b fun e => hnb (by rw [e, z5]; exact List.mem_singleton_self _)) (fun Sh' hK => ⟨[V r], (shows_na rfl).2 rfl, ?_⟩) (fun b hb C T f hc => ?_)
      · exact .inr ⟨g0, es', ck', l', rfl, z4, z5, s1, hl'⟩
      · rw [z5] at hb
        obtain rfl := List.mem_singleton.1 hb
        rw [z6] at hc; cases hc

theorem Pre.map_sub (h : Pre cx g a w V Fp) {r : Nat} {R : GRoot} {E : Type} (e : E) {p : Path E} {ka kb : Kt} {m : Mk} {get : E → R.k.T → (Kt.map ka kb).T} {put : E → R.k.T → (Kt.map ka kb).T → R.k.T} {ok : E → R.k.T → Bool} {v : Value}
    (hx : ESat cx g.rt V Fp w (.sub r R.hv (p.at e)) v) (hr : g.rt r = some (some R)) (how : ∃ m1, R.m = .ow m1) (hL : lens R.k R.m p = some ⟨.map ka kb, .ow m, get, put, ok⟩) (hok : ok e R.x = true) : MapIn cx g a w V Fp r R ka kb v (get e R.x) (put e R.x) := by
  obtain ⟨R0, q1, q2⟩ := hx
  rw [hr] at q1
  obtain rfl := Option.some.inj q1
  obtain ⟨b, o', hbF, hadr, hcell⟩ := (q2 R rfl).2 rfl (gok_lens' e hL hok)
  obtain ⟨Fa, Fo, Fb, c, hF, hc, H⟩ := h.hole hr e hL hok
  rcases H with ⟨c1, c2, k1, k2, _⟩ | ⟨b', c1, c2, T', hb, k2, k3, k4⟩
  · rw [k2 none] at hadr; cases hadr
  have := k2 none
  rw [hadr] at this
  obtain ⟨rfl, rfl⟩ := Prod.mk.inj (Option.some.inj this)
  clear this
  have hlc : c.length = 1 := Rz_len _ _ _ _ _ _ _ hc
  obtain ⟨v0, rfl⟩ : ∃ v0, c = [v0] := by
    match c, hlc with
    | [v0], _ => exact ⟨v0, rfl⟩
  have hv0 : v = v0 := by
    rw [cell_of_block k3] at hcell
    simpa using hcell.symm
  subst hv0
  obtain ⟨csr, hsr, hzr⟩ := h.mem.roots r R hr
  refine ⟨how, fun hn => ?_, fun l hl => ?_⟩
  · rcases hc with ⟨_, _, z3⟩ | ⟨g0, es, ck, l, z3, _⟩
    · exact (List.cons.inj z3).1
    · have z3 : get e R.x = some l := z3
      rw [hn] at z3; cases z3
  · rcases hc with ⟨z3, _⟩ | ⟨g0, es, ck, l0, z3, z4, z5, z6, z7⟩
    · have z3 : get e R.x = none := z3
      rw [hl] at z3; cases z3
    · have z3 : get e R.x = some l0 := z3
      obtain rfl := Option.some.inj (z3.symm.trans hl)
      refine ⟨g0, es, ck, (List.cons.inj z4).1, z6, z7, fun es' ck' l' hl' => ?_⟩
      obtain ⟨s1, s2⟩ := heap_setB (o' := .map es' ck') z6
      have hgF : g0 ∈ Fp r := by rw [hF, z5]; simp
      have hnd : (Fa ++ (Fo ++ Fb)).Nodup := hF ▸ h.mem.nodup r
      have n1 := List.nodup_append.1 hnd
      have n2 := List.nodup_append.1 n1.2.1
      have hg1 : ∀ u ∈ Fa ++ Fb, u ≠ g0 := by
        intro u hu e
        subst e
        have : u ∈ Fo := by rw [z5]; exact List.mem_singleton_self _
        rcases List.mem_append.1 hu with hu | hu
        · exact n1.2.2 u hu u (List.mem_append_left _ this) rfl
        · exact n2.2.2 u this u hu rfl
      refine h.touch (w' := { w with heap := w.heap.setIfInBounds g0 (.map es' ck') }) hr how rfl rfl rfl (by simp) (fun u hu hnu => s2 u fun e => hnu (by rw [e]; exact hgF)) (fun Sh' hK => ⟨csr, hsr, ?_⟩) (fun u hu C T f hC => ?_)
      · rw [hF, ← shows_hdr hsr]
        have hbg : b ≠ g0 := hg1 b (List.mem_append_left _ hb)
        exact (k4 _ Sh' (.ow m) R.m Fo (some l') [v] hK (fun u hu _ => s2 u (hg1 u hu)) ((s2 b hbg).trans k3) (MSet_same e (lens_is _ _ _ _ hL)) (.inr ⟨g0, es', ck', l', rfl, z4, z5, s1, hl'⟩)).1
      · by_cases hug : u = g0
        · rw [hug, z6] at hC; cases hC
        · exact ⟨C, (s2 u hug).trans hC⟩
end

section
variable {E : Type} {P : Program} {o : Oper} {s : Lst E} {gs : Gs}

/-- A map's place: its root, data and change. -/
structure MP (E : Type) where
  r : Nat
  R : Root E
  ka : Kt
  kb : Kt
  x : E → Option (List (ka.T × kb.T))
  put : E → Option (List (ka.T × kb.T)) → R.k.T
  chk : Option (E → Bool)
def c_mp (s : Lst E) (gs : Gs) (x : Operand) : Option (MP E) := match s.op gs x with
  | some (.own r) => match s.root gs r with
    | some ⟨.map a b, .ow m, hv, y⟩ => some ⟨r, ⟨.map a b, .ow m, hv, y⟩, a, b, y, fun _ z => z, none⟩
    | _ => none
  | some (.sub r hv p) => match s.root gs r with
    | some R => if R.hv = hv ∧ R.m.isOw = true then match lens R.k R.m p with
      | some ⟨.map a b, .ow m, get, put, ok⟩ => some ⟨r, R, a, b, fun e => get e (R.x e), fun e z => put e (R.x e) z, okChk R p ⟨.map a b, .ow m, get, put, ok⟩⟩
      | _ => none
      else none
    | none => none
  | _ => none
theorem c_mp_spec {x : Operand} {q : MP E} (h : c_mp s gs x = some q) {cx : Cx} {g : G} {a : Act} {w : World} {V : Nat → Value} {Fp : Nat → List Nat} {e : E} {n : Nat} (hp : Pre cx g a w V Fp) (hA : Agree g s e (opTmps o) n) (h1 : s.on gs e = true) (mx : x ∈ o.op.operands) (hok : chkHolds q.chk e = true) :
    g.rt q.r = some (some (q.R.ev e)) ∧ MapIn cx g a w V Fp q.r (q.R.ev e) q.ka q.kb (a.eval x) (q.x e) (q.put e) := by
  unfold c_mp at h
  split at h <;> try (cases h; done)
  · rename_i r hx
    split at h <;> try (cases h; done)
    rename_i ka kb m hv y hR
    obtain rfl := Option.some.inj h
    have hrt : g.rt r = _ := (Lst.op_root hA mx hx (List.mem_singleton_self _)).trans (Lst.root_gr h1 hR)
    exact ⟨hrt, hp.map_own hrt (Lst.op_esat hp hA h1 mx hx)⟩
  · rename_i r hv p hx
    split at h <;> try (cases h; done)
    rename_i R hR
    split at h <;> try (cases h; done)
    rename_i hc
    obtain ⟨rfl, how⟩ := hc
    split at h <;> try (cases h; done)
    rename_i ka kb m get put ok hL
    obtain rfl := Option.some.inj h
    have hrt : g.rt r = some (some (R.ev e)) := (Lst.op_root hA mx hx (List.mem_singleton_self _)).trans (Lst.root_gr h1 hR)
    exact ⟨hrt, hp.map_sub (R := R.ev e) e (Lst.op_esat hp hA h1 mx hx) hrt (how_of how) hL (okChk_holds hL hok)⟩

def zIs : Kt → Value → Bool
  | .int k, .int k' n => k == k' && n == 0
  | .bool, .bool b => !b
  | .str, .string s => s.size == 0
  | _, _ => false
theorem zIs_spec {b : Kt} {z : Value} (h : zIs b z = true) : z = scV b b.dflt := by
  unfold zIs at h
  split at h <;> try (cases h; done)
  · rename_i k k' n
    simp only [Bool.and_eq_true, beq_iff_eq] at h
    rw [h.1, h.2]; rfl
  · rename_i b
    have : b = false := by simpa using h
    rw [this]; rfl
  · rename_i s
    have : s = ByteArray.empty := by
      have h : s.size = 0 := by simpa using h
      exact ByteArray.ext (Array.eq_empty_of_size_eq_zero h)
    rw [this]; rfl
def mapT (P : Program) (t : TypeId) (a b : Kt) : Option TypeId := match P.underlying t with
  | some (.map k e) => if keyOk P k a then (match (P.info? e).bind (·.zero) with
    | some z => if zIs b z && keyOk P e b then some k else none
    | none => none) else none
  | _ => none
theorem mapT_spec {t k : TypeId} {a b : Kt} (h : mapT P t a b = some k) : ∃ e d i, P.underlying t = some (.map k e) ∧ P.underlying k = some d ∧ (∀ x : a.T, IsKey d (scV a x)) ∧ (∀ x y : a.T, Instr.sameNow d (scV a x) (scV a y) = some (scEq a x y)) ∧ P.info? e = some i ∧ i.zero = some (scV b b.dflt) ∧ keyOk P e b = true := by
  unfold mapT at h
  split at h <;> try (cases h; done)
  rename_i k' e hu
  split at h <;> try (cases h; done)
  rename_i hk
  split at h <;> try (cases h; done)
  rename_i z hz
  split at h <;> try (cases h; done)
  rename_i hzz
  obtain rfl := Option.some.inj h
  rw [Bool.and_eq_true] at hzz
  obtain ⟨d, h1, h2, h3⟩ := keyOk_spec hk
  obtain ⟨i, h4, h5⟩ := Option.bind_eq_some_iff.1 hz
  have := zIs_spec hzz.1
  exact ⟨e, d, i, hu, h1, h2, h3, h4, by rw [h5, this], hzz.2⟩
end
end Go.Lift

namespace Go.Lift
open Go.MapKept
set_option linter.unusedVariables false
set_option linter.unusedSimpArgs false

section
variable {E : Type} {P : Program} {o : Oper} {s : Lst E} {gs : Gs}

/-! ### makeMap -/
def c_mkMap (s : Lst E) (k : Kt) : Option (OR E) := match k with
  | .map a b => some ⟨none, [(0, .own s.nx)], [(s.nx, some ⟨.map a b, .ow .sh, 0, fun _ => (some [] : Option (List (a.T × b.T)))⟩)], 1⟩
  | _ => none
theorem snd_mkMap {t : TypeId} {k : Kt} {r : OR E} (ho : o.op = .makeMap t none) (h : c_mkMap s k = some r) : Snd P o s gs r := by
  unfold c_mkMap at h
  split at h <;> try (cases h; done)
  rename_i ka kb
  obtain rfl := Option.some.inj h
  intro cx en g a w V Fp Q h1 hok hA hd hp
  rw [evs_one, rtU_cons, rtU_nil]
  have hr : g.rt s.nx = none := by have := hA.new 0 (by simp); simpa using this
  have hrun : (Instr.makeMap t none).run P w = .ok (.map (some w.heap.size)) (w.alloc (.map #[] 0)) := rfl
  refine wp_val (v := .map (some w.heap.size)) (w' := w.alloc (.map #[] 0)) (by simp [execOp, ho, hrun]) ?_
  refine hp.fresh hr (v := .map (some w.heap.size)) (w' := w.alloc (.map #[] 0)) (k := .map ka kb) (m := .ow .sh) (x := (some [] : Option (List (ka.T × kb.T)))) (F := [w.heap.size]) (cs := [.map (some w.heap.size)]) rfl rfl rfl (by simp) (fun b hb => RowKit.Below.heap_alloc _ _ _ hb) (by simp) (by simp) rfl (fun Sh' hK => ?_) hd
  exact .inr ⟨w.heap.size, #[], 0, [], rfl, rfl, rfl, heap_alloc_new' _ _, rfl⟩

/-! ### lookup -/
theorem sc_eval {a : Kt} {k : a.T} {cx : Cx} {rt : Nat → Option GR} {V : Nat → Value} {Fp : Nat → List Nat} {w : World} {v : Value} {P : Program} {t : TypeId} (hk : keyOk P t a = true) (h : ESat cx rt V Fp w (.val a k) v) : v = scV a k := by
  unfold keyOk at hk
  split at hk <;> try (cases hk; done)
  · exact h.int
  · exact h.bool
  · exact h.str
/-- What is found. -/
def lookV (a b : Kt) (k : a.T) (x : Option (List (a.T × b.T))) : b.T := (mget a b k x).getD b.dflt
def c_look (P : Program) (s : Lst E) (gs : Gs) (t : TypeId) (x y : Operand) (ok : Bool) : Option (OR E) := match c_mp s gs x, s.op gs y with
  | some q, some (.val ka' k) => if h : ka' = q.ka then if (mapT P t q.ka q.kb).isSome then
      some ⟨q.chk, if ok then [(1, .val q.kb fun e => lookV q.ka q.kb (h ▸ k e) (q.x e)), (2, .val .bool fun e => (mget q.ka q.kb (h ▸ k e) (q.x e)).isSome)] else [(0, .val q.kb fun e => lookV q.ka q.kb (h ▸ k e) (q.x e))], [], 0⟩
      else none else none
  | _, _ => none
theorem esat_sc {b : Kt} {P : Program} {t : TypeId} (hk : keyOk P t b = true) {cx : Cx} {rt : Nat → Option GR} {V : Nat → Value} {Fp : Nat → List Nat} {w : World} (x : b.T) : ESat cx rt V Fp w (.val b x) (scV b x) := by
  unfold keyOk at hk
  split at hk <;> try (cases hk; done)
  · exact esat_int _ _
  · exact esat_bool _
  · exact esat_str _
/-- A map read: what is found in it. -/
theorem run_look {t kt et : TypeId} {d : TypeDesc} {i : TypeInfo} {a b : Kt} {k : a.T} {x : Option (List (a.T × b.T))} {v : Value} {w : World} {ok : Bool} (hu : P.underlying t = some (.map kt et)) (hd : P.underlying kt = some d) (hkey : ∀ x : a.T, IsKey d (scV a x))
    (hs : ∀ x y : a.T, Instr.sameNow d (scV a x) (scV a y) = some (scEq a x y)) (hi : P.info? et = some i) (hz : i.zero = some (scV b b.dflt)) (hn : x = none → v = .map none)
    (hsm : ∀ l, x = some l → ∃ g es ck, v = .map (some g) ∧ w.heap[g]? = some (.map es ck) ∧ es.toList.map (fun e => (e.key, e.val)) = l.map (fun q => (scV a q.1, scV b q.2))) :
    (Instr.lookup t v (scV a k) ok).run P w = .ok (if ok then .tuple #[scV b (lookV a b k x), .bool (mget a b k x).isSome] else scV b (lookV a b k x)) w := by
  have hzero : (zeroValue et).run P w = .ok (scV b b.dflt) w := by simp [zeroValue, typeInfo, hi, hz]
  cases x with
  | none =>
    rw [hn rfl]
    have hf : Instr.findNow d (scV a k) (#[] : Array MapEntry).toList 0 = some none := rfl
    have hc := fun e => run_checkKey (P := P) (w := w) (kt := kt) hd (hkey k) e 9999
    have hfk := run_findKey (P := P) (w := w) (kt := kt) hd hf
    simp only [Instr.lookup, Sem.run_bind, run_underlying hu, Result.andThen_ok, Sem.run_pure, hc, hfk, hzero]
    rfl
  | some l =>
    obtain ⟨g, es, ck, rfl, hg, hes⟩ := hsm l rfl
    have hf := findNow_at (P := P) hs k l es.toList 0 hes
    have hc := fun e => run_checkKey (P := P) (w := w) (kt := kt) hd (hkey k) e 9999
    have hfk := run_findKey (P := P) (w := w) (kt := kt) hd hf
    have hm : mget a b k (some l) = (mfind a b k l).map (·.2) := rfl
    unfold lookV
    rw [hm]
    cases hq : mfind a b k l with
    | none =>
      rw [hq] at hfk
      simp only [Instr.lookup, Sem.run_bind, run_underlying hu, Result.andThen_ok, MapKept.run_getObj_map (P := P) (w := w) (r := g) hg, Sem.run_pure, hc, hfk, hzero, Option.map_none]
      rfl
    | some q =>
      rw [hq] at hfk
      simp only [Instr.lookup, Sem.run_bind, run_underlying hu, Result.andThen_ok, MapKept.run_getObj_map (P := P) (w := w) (r := g) hg, Sem.run_pure, hc, hfk, Option.map_some]
      rfl
theorem snd_look {t : TypeId} {x y : Operand} {ok : Bool} {r : OR E} (ho : o.op = .lookup t x y ok) (h : c_look P s gs t x y ok = some r) : Snd P o s gs r := by
  unfold c_look at h
  have mx : x ∈ o.op.operands := by simp [ho, Op.operands]
  have my : y ∈ o.op.operands := by simp [ho, Op.operands]
  split at h <;> try (cases h; done)
  rename_i q ka' k hx hy
  split at h <;> try (cases h; done)
  rename_i hk
  split at h <;> try (cases h; done)
  rename_i hT
  obtain rfl := Option.some.inj h
  obtain ⟨kt, hT⟩ := Option.isSome_iff_exists.1 hT
  obtain ⟨et, d, i, hu, hd, hkey, hs, hi, hz, hv⟩ := mapT_spec hT
  subst hk
  intro cx e g a w V Fp Q h1 hok hA hdst hp
  obtain ⟨_, hM⟩ := c_mp_spec hx hp hA h1 mx (show chkHolds q.chk e = true from hok)
  have hkv : a.eval y = scV q.ka (k e) := by
    have hu2 := hT
    unfold mapT at hu2
    split at hu2 <;> try (cases hu2; done)
    split at hu2 <;> try (cases hu2; done)
    rename_i hkk
    exact sc_eval hkk (Lst.op_esat hp hA h1 my hy)
  have hrun := run_look (P := P) (w := w) (ok := ok) (k := k e) hu hd hkey hs hi hz hM.none (fun l hl => by
    obtain ⟨b, es, ck, h2, h3, h4, _⟩ := hM.some l hl
    exact ⟨b, es, ck, h2, h3, h4⟩)
  refine wp_val (v := (if ok then .tuple #[scV q.kb (lookV q.ka q.kb (k e) (q.x e)), .bool (mget q.ka q.kb (k e) (q.x e)).isSome] else scV q.kb (lookV q.ka q.kb (k e) (q.x e)))) (by simp only [execOp, ho, hkv, Sem.run_bind, hrun, Result.andThen_ok]; rfl) ?_
  rw [rtU_nil]
  refine hp.pureN hdst fun j en hj => ?_
  cases ok with
  | true =>
    obtain ⟨ent, h2, rfl⟩ := Option.map_eq_some_iff.1 hj
    simp only [if_true, look] at h2
    split at h2
    · rename_i hj1
      obtain rfl := Option.some.inj h2
      subst hj1
      exact ⟨_, rfl, esat_sc hv _⟩
    · split at h2
      · rename_i hj2
        obtain rfl := Option.some.inj h2
        subst hj2
        exact ⟨_, rfl, esat_bool _⟩
      · cases h2
  | false =>
    obtain ⟨ent, h2, rfl⟩ := Option.map_eq_some_iff.1 hj
    simp only [Bool.false_eq_true, if_false, look] at h2
    split at h2
    · rename_i hj1
      obtain rfl := Option.some.inj h2
      subst hj1
      exact ⟨_, rfl, esat_sc hv _⟩
    · cases h2

/-! ### mapUpdate -/
theorem mfind_key {a b : Kt} {k : a.T} : ∀ {l : List (a.T × b.T)} {q : Nat × b.T}, mfind a b k l = some q → ∀ h : q.1 < l.length, scEq a k l[q.1].1 = true
  | [], q, h => by cases h
  | p :: l, q, h => by
    simp only [mfind] at h
    split at h
    · rename_i hp
      obtain rfl := Option.some.inj h
      intro _; exact hp
    · obtain ⟨q', h1, rfl⟩ := Option.map_eq_some_iff.1 h
      intro hl
      exact mfind_key h1 (by simpa using hl)
theorem scEq_eq {P : Program} {t : TypeId} {a : Kt} (hk : keyOk P t a = true) {x y : a.T} (h : scEq a x y = true) : x = y := by
  unfold keyOk at hk
  split at hk <;> try (cases hk; done)
  · exact eq_of_beq (α := Int) h
  · exact eq_of_beq (α := Bool) h
  · obtain ⟨r, hr, hiff⟩ := sameNow_of_keys (d := .string) (a := .string x) (b := .string y) trivial trivial
    have h2 : Instr.sameNow .string (.string x) (.string y) = some (scEq .str x y) := by simp [Instr.sameNow, scEq]
    rw [hr] at h2
    exact Value.string.inj (hiff.1 (Option.some.inj (h2.trans (congrArg some h))))
/-- What an update leaves. -/
def putV (a b : Kt) (k : a.T) (v : b.T) (x : Option (List (a.T × b.T))) : Option (List (a.T × b.T)) := x.map (mput a b k v)
def c_mup (P : Program) (s : Lst E) (gs : Gs) (t : TypeId) (x y z : Operand) : Option (OR E) := match c_mp s gs x, s.op gs y, s.op gs z with
  | some q, some (.val ka' k), some (.val kb' v) => if h : ka' = q.ka ∧ kb' = q.kb then if (mapT P t q.ka q.kb).isSome then
      some ⟨andChk q.chk (some fun e => (q.x e).isSome), [], [(q.r, some ⟨q.R.k, q.R.m, q.R.hv + 1, fun e => q.put e (putV q.ka q.kb (h.1 ▸ k e) (h.2 ▸ v e) (q.x e))⟩)], 0⟩
      else none else none
  | _, _, _ => none
theorem run_mup {t kt et : TypeId} {d : TypeDesc} {a b : Kt} {k : a.T} {v : b.T} {l : List (a.T × b.T)} {g ck : Nat} {es : Array MapEntry} {w : World} (hu : P.underlying t = some (.map kt et)) (hd : P.underlying kt = some d) (hkey : ∀ x : a.T, IsKey d (scV a x))
    (hs : ∀ x y : a.T, Instr.sameNow d (scV a x) (scV a y) = some (scEq a x y)) (hsc : ∀ x y : a.T, scEq a x y = true → x = y) (hg : w.heap[g]? = some (.map es ck)) (hes : es.toList.map (fun e => (e.key, e.val)) = l.map (fun q => (scV a q.1, scV b q.2))) :
    ∃ es' ck', (Instr.mapUpdate t (.map (some g)) (scV a k) (scV b v)).run P w = .ok () { w with heap := w.heap.setIfInBounds g (.map es' ck') } ∧ es'.toList.map (fun e => (e.key, e.val)) = (mput a b k v l).map (fun q => (scV a q.1, scV b q.2)) := by
  have hf := findNow_at (P := P) hs k l es.toList 0 hes
  have hc := fun e => run_checkKey (P := P) (w := w) (kt := kt) hd (hkey k) e 9999
  have hfk := run_findKey (P := P) (w := w) (kt := kt) hd hf
  have hset := fun o => MapKept.run_setObj_map (P := P) o hg
  unfold mput
  cases hq : mfind a b k l with
  | none =>
    rw [hq] at hfk
    refine ⟨es.push { key := scV a k, val := scV b v, born := ck }, ck + 1, ?_, ?_⟩
    · simp only [Instr.mapUpdate, Sem.run_bind, run_underlying hu, Result.andThen_ok, MapKept.run_getObj_map (P := P) (w := w) (r := g) hg, hc, hfk, hset, Option.map_none]
    · simp [hes]
  | some q =>
    rw [hq] at hfk
    have hlt := mfind_lt hq
    have hsz : es.size = l.length := by have := congrArg List.length hes; simpa using this
    have hke : (es[q.1]?).map (·.key) = some (scV a k) := by
      have h1 : (es.toList.map (fun e => (e.key, e.val)))[q.1]? = (l.map (fun q => (scV a q.1, scV b q.2)))[q.1]? := by rw [hes]
      simp only [List.getElem?_map, Array.getElem?_toList] at h1
      rw [List.getElem?_eq_getElem hlt] at h1
      obtain ⟨en, h2, h3⟩ := Option.map_eq_some_iff.1 h1
      rw [h2]
      have := mfind_key hq hlt
      rw [hsc _ _ this]
      simpa using (Prod.mk.inj h3).1
    refine ⟨es.modify q.1 fun e => { e with key := scV a k, val := scV b v }, ck, ?_, ?_⟩
    · simp only [Instr.mapUpdate, Sem.run_bind, run_underlying hu, Result.andThen_ok, MapKept.run_getObj_map (P := P) (w := w) (r := g) hg, hc, hfk, Option.map_some, Nat.zero_add, hke, Option.getD_some, run_keyThatStays (hkey k), hset]
    · refine List.ext_getElem? fun j => ?_
      have h1 : (es.toList.map (fun e => (e.key, e.val)))[j]? = (l.map (fun q => (scV a q.1, scV b q.2)))[j]? := by rw [hes]
      simp only [List.getElem?_map, Array.getElem?_toList] at h1
      simp only [List.getElem?_map, Array.getElem?_toList, Array.getElem?_modify, List.getElem?_set]
      by_cases hj : q.1 = j
      · subst hj
        rw [if_pos rfl, if_pos rfl, if_pos hlt]
        have h3 : q.1 < es.size := by omega
        rw [Array.getElem?_eq_getElem h3]
        rfl
      · rw [if_neg hj, if_neg hj]
        exact h1
theorem snd_mup {t : TypeId} {x y z : Operand} {r : OR E} (ho : o.op = .mapUpdate t x y z) (hdst : o.dst = none) (h : c_mup P s gs t x y z = some r) : Snd P o s gs r := by
  unfold c_mup at h
  have mx : x ∈ o.op.operands := by simp [ho, Op.operands]
  have my : y ∈ o.op.operands := by simp [ho, Op.operands]
  have mz : z ∈ o.op.operands := by simp [ho, Op.operands]
  split at h <;> try (cases h; done)
  rename_i q ka' k kb' v hx hy hz
  split at h <;> try (cases h; done)
  rename_i hk
  split at h <;> try (cases h; done)
  rename_i hT
  obtain rfl := Option.some.inj h
  obtain ⟨kt, hT⟩ := Option.isSome_iff_exists.1 hT
  obtain ⟨et, d, i, hu, hd, hkey, hs, hi, hzz, hv⟩ := mapT_spec hT
  obtain ⟨rfl, rfl⟩ := hk
  have hkk : keyOk P kt q.ka = true := by
    have hu2 := hT
    unfold mapT at hu2
    split at hu2 <;> try (cases hu2; done)
    split at hu2 <;> try (cases hu2; done)
    rename_i hkk
    split at hu2 <;> try (cases hu2; done)
    split at hu2 <;> try (cases hu2; done)
    obtain rfl := Option.some.inj hu2
    exact hkk
  intro cx e g a w V Fp Q h1 hok hA hd2 hp
  obtain ⟨hok1, hok2⟩ := andChk_holds hok
  obtain ⟨hrt, hM⟩ := c_mp_spec hx hp hA h1 mx hok1
  have hkv : a.eval y = scV q.ka (k e) := sc_eval hkk (Lst.op_esat hp hA h1 my hy)
  have hvv : a.eval z = scV q.kb (v e) := sc_eval hv (Lst.op_esat hp hA h1 mz hz)
  obtain ⟨l, hl⟩ := Option.isSome_iff_exists.1 (show (q.x e).isSome = true from hok2)
  obtain ⟨b, es, ck, h2, h3, h4, h5⟩ := hM.some l hl
  obtain ⟨es', ck', h6, h7⟩ := run_mup (P := P) (k := k e) (v := v e) hu hd hkey hs (fun x y => scEq_eq hkk) h3 h4
  have h8 := h5 es' ck' _ h7
  refine wp_skip' (w' := { w with heap := w.heap.setIfInBounds b (.map es' ck') }) (by simp only [execOp, ho, hkv, hvv, h2, Sem.run_bind, h6, Result.andThen_ok]; rfl) ?_
  rw [hdst, rtU_cons, rtU_nil]
  have e1 : putV q.ka q.kb (k e) (v e) (q.x e) = some (mput q.ka q.kb (k e) (v e) l) := by rw [hl]; rfl
  have e2 : g.put none (evs [] e) (upd g.rt q.r (some (some ⟨q.R.k, q.R.m, q.R.hv + 1, q.put e (putV q.ka q.kb (k e) (v e) (q.x e))⟩))) = ⟨g.tm, upd g.rt q.r (some (some ⟨q.R.k, q.R.m, q.R.hv + 1, q.put e (some (mput q.ka q.kb (k e) (v e) l))⟩))⟩ := by
    rw [e1]
    unfold G.put
    simp
  show GSat cx (g.put none (evs [] e) (upd g.rt q.r (some (some ⟨q.R.k, q.R.m, q.R.hv + 1, q.put e (putV q.ka q.kb (k e) (v e) (q.x e))⟩)))) _ _
  rw [e2]
  exact h8
end
end Go.Lift
namespace Go.Lift
open Go.MapKept
set_option linter.unusedVariables false
set_option linter.unusedSimpArgs false

section
variable {E : Type} {P : Program} {o : Oper} {s : Lst E} {gs : Gs}

/-! ### delete -/
theorem map_eraseIdx' {α β : Type} (f : α → β) : ∀ (l : List α) (i : Nat), (l.eraseIdx i).map f = (l.map f).eraseIdx i
  | [], _ => by simp
  | x :: l, 0 => by simp
  | x :: l, i + 1 => by simp [map_eraseIdx' f l i]
/-- What a delete leaves. -/
def delV (a b : Kt) (k : a.T) (x : Option (List (a.T × b.T))) : Option (List (a.T × b.T)) := x.map (mdel a b k)
def c_del (P : Program) (s : Lst E) (gs : Gs) (t : TypeId) (x y : Operand) : Option (OR E) := match c_mp s gs x, s.op gs y with
  | some q, some (.val ka' k) => if h : ka' = q.ka then if (mapT P t q.ka q.kb).isSome then
      some ⟨andChk q.chk (some fun e => (q.x e).isSome), [(0, .cst (.tuple #[]))], [(q.r, some ⟨q.R.k, q.R.m, q.R.hv + 1, fun e => q.put e (delV q.ka q.kb (h ▸ k e) (q.x e))⟩)], 0⟩
      else none else none
  | _, _ => none
theorem run_del {t t2 ty kt et : TypeId} {d : TypeDesc} {a b : Kt} {k : a.T} {l : List (a.T × b.T)} {g ck : Nat} {es : Array MapEntry} {w : World} (hu : P.underlying t = some (.map kt et)) (hd : P.underlying kt = some d) (hkey : ∀ x : a.T, IsKey d (scV a x))
    (hs : ∀ x y : a.T, Instr.sameNow d (scV a x) (scV a y) = some (scEq a x y)) (hg : w.heap[g]? = some (.map es ck)) (hes : es.toList.map (fun e => (e.key, e.val)) = l.map (fun q => (scV a q.1, scV b q.2))) :
    ∃ es' ck', (Builtin.delete_ #[t, t2] ty #[.map (some g), scV a k]).run P w = .ok (.tuple #[]) { w with heap := w.heap.setIfInBounds g (.map es' ck') } ∧ es'.toList.map (fun e => (e.key, e.val)) = (mdel a b k l).map (fun q => (scV a q.1, scV b q.2)) := by
  have hf := findNow_at (P := P) hs k l es.toList 0 hes
  have hc := fun e => run_checkKey (P := P) (w := w) (kt := kt) hd (hkey k) e 9999
  have hfk := run_findKey (P := P) (w := w) (kt := kt) hd hf
  have hset := fun o => MapKept.run_setObj_map (P := P) o hg
  unfold mdel
  cases hq : mfind a b k l with
  | none =>
    rw [hq] at hfk
    refine ⟨es, ck, ?_, hes⟩
    simp [Builtin.delete_, run_underlying hu, MapKept.run_getObj_map (P := P) (w := w) (r := g) hg, hc, hfk, hset, Result.andThen]
  | some q =>
    rw [hq] at hfk
    have hlt := mfind_lt hq
    have hsz : es.size = l.length := by have := congrArg List.length hes; simpa using this
    refine ⟨es.eraseIdxIfInBounds q.1, ck, ?_, ?_⟩
    · simp [Builtin.delete_, run_underlying hu, MapKept.run_getObj_map (P := P) (w := w) (r := g) hg, hc, hfk, hset, Result.andThen]
    · have h1 : (es.eraseIdxIfInBounds q.1).toList = es.toList.eraseIdx q.1 := by
        rw [Array.eraseIdxIfInBounds, dif_pos (by omega)]
        simp
      rw [h1, map_eraseIdx', hes, map_eraseIdx']
theorem snd_del {t t2 : TypeId} {x y : Operand} {r : OR E} (ho : o.op = .call { callee := .builtin .delete, args := #[x, y], argTypes := #[t, t2] }) (h : c_del P s gs t x y = some r) : Snd P o s gs r := by
  unfold c_del at h
  have mx : x ∈ o.op.operands := by simp [ho, Op.operands, Call.operands]
  have my : y ∈ o.op.operands := by simp [ho, Op.operands, Call.operands]
  split at h <;> try (cases h; done)
  rename_i q ka' k hx hy
  split at h <;> try (cases h; done)
  rename_i hk
  split at h <;> try (cases h; done)
  rename_i hT
  obtain rfl := Option.some.inj h
  obtain ⟨kt, hT⟩ := Option.isSome_iff_exists.1 hT
  obtain ⟨et, d, i, hu, hd, hkey, hs, hi, hzz, hv⟩ := mapT_spec hT
  obtain rfl := hk
  have hkk : keyOk P kt q.ka = true := by
    have hu2 := hT
    unfold mapT at hu2
    split at hu2 <;> try (cases hu2; done)
    split at hu2 <;> try (cases hu2; done)
    rename_i hkk
    split at hu2 <;> try (cases hu2; done)
    split at hu2 <;> try (cases hu2; done)
    obtain rfl := Option.some.inj hu2
    exact hkk
  intro cx e g a w V Fp Q h1 hok hA hd2 hp
  obtain ⟨hok1, hok2⟩ := andChk_holds hok
  obtain ⟨hrt, hM⟩ := c_mp_spec hx hp hA h1 mx hok1
  have hkv : a.eval y = scV q.ka (k e) := sc_eval hkk (Lst.op_esat hp hA h1 my hy)
  obtain ⟨l, hl⟩ := Option.isSome_iff_exists.1 (show (q.x e).isSome = true from hok2)
  obtain ⟨b, es, ck, h2, h3, h4, h5⟩ := hM.some l hl
  have hrun := fun ty => run_del (P := P) (k := k e) (t2 := t2) (ty := ty) hu hd hkey hs h3 h4
  obtain ⟨es', ck', h6, h7⟩ := hrun 0
  have h6' : ∀ ty, (Builtin.delete_ #[t, t2] ty #[.map (some b), scV q.ka (k e)]).run P w = .ok (.tuple #[]) { w with heap := w.heap.setIfInBounds b (.map es' ck') } := fun ty => h6
  have h8 := h5 es' ck' _ h7
  refine wp_val (v := .tuple #[]) (w' := { w with heap := w.heap.setIfInBounds b (.map es' ck') }) ?_ ?_
  · simp only [execOp, ho, resolve, Sem.run_bind, invoke, builtin]
    simp [hkv, h2, h6']
  have e1 : delV q.ka q.kb (k e) (q.x e) = some (mdel q.ka q.kb (k e) l) := by rw [hl]; rfl
  obtain ⟨V', Fp', hp'⟩ := h8.pre
  have h9 := hp'.pure (v := .tuple #[]) (e := .cst (.tuple #[])) hd2 rfl
  rw [evs_one, rtU_cons, rtU_nil]
  show GSat cx (g.put o.dst (one (.cst (.tuple #[]))) (upd g.rt q.r (some (some ⟨q.R.k, q.R.m, q.R.hv + 1, q.put e (delV q.ka q.kb (k e) (q.x e))⟩)))) _ _
  rw [e1]
  exact h9

/-! ### how many entries a map has -/
def c_lenM (P : Program) (s : Lst E) (gs : Gs) (t : TypeId) (x : Operand) : Option (OR E) := match c_mp s gs x with
  | some q => match P.underlying t with
    | some (.map _ _) => some ⟨q.chk, [(0, .val (.int .i64) fun e => ((((q.x e).getD []).length : Nat) : Int))], [], 0⟩
    | _ => none
  | none => none
theorem snd_lenM {t : TypeId} {x : Operand} {r : OR E} (ho : o.op = .call { callee := .builtin .len, args := #[x], argTypes := #[t] }) (h : c_lenM P s gs t x = some r) : Snd P o s gs r := by
  unfold c_lenM at h
  have mx : x ∈ o.op.operands := by simp [ho, Op.operands, Call.operands]
  split at h <;> try (cases h; done)
  rename_i q hx
  split at h <;> try (cases h; done)
  rename_i kt et hu
  obtain rfl := Option.some.inj h
  refine Snd.value fun cx e g ac w V Fp h1 hok hA hp => ?_
  obtain ⟨hrt, hM⟩ := c_mp_spec hx hp hA h1 mx hok
  have run : ∀ {v u : Value}, ac.eval x = v → (∀ ty, (Builtin.len_ #[t] ty #[v]).run P w = .ok u w) → (execOp ac.eval o).run P w = .ok (.value u) w := by
    intro v u h1 h2
    simp only [execOp, ho, resolve, Sem.run_bind, invoke, builtin]
    simp [h1, h2]
  cases hl : q.x e with
  | none =>
    refine ⟨.int .i64 0, run (hM.none hl) fun ty => ?_, ?_⟩
    · simp [Builtin.len_, run_underlying hu, goInt]
    · simp only [Ent.ev, hl]; exact esat_int _ _
  | some l =>
    obtain ⟨b, es, ck, h2, h3, h4, h5⟩ := hM.some l hl
    have hsz : es.size = l.length := by have := congrArg List.length h4; simpa using this
    refine ⟨.int .i64 l.length, run h2 fun ty => ?_, ?_⟩
    · simp [Builtin.len_, run_underlying hu, goInt, MapKept.run_getObj_map (P := P) (w := w) (r := b) h3, Result.andThen, hsz]
    · simp only [Ent.ev, hl]; exact esat_int _ _
end

/-! ### places that may stand empty -/
section
variable {P : Program} {cx : Cx} {g : G} {a : Act} {w : World} {V : Nat → Value} {Fp : Nat → List Nat} {o : Oper} {Q : Exit → Act → World → Prop}
theorem shows_opt {s : Kt} {v : Value} {cs : List Value} : Shows (.opt false s) v cs ↔ Shows s v cs := Iff.rfl
/-- load: what is owned goes over to the loaded value; the place stands empty from then on. -/
theorem op_load_takeO (h : Pre cx g a w V Fp) {t : TypeId} {x : Operand} (ho : o.op = .load t x) {r hv r' : Nat} {R : GRoot} {E : Type} (e : E) {p : Path E} {s : Kt} {m' : Mk} {get : E → R.k.T → (Kt.opt false s).T} {put : E → R.k.T → (Kt.opt false s).T → R.k.T} {ok : E → R.k.T → Bool}
    (hx : ESat cx g.rt V Fp w (.loc r hv (p.at e)) (a.eval x)) (hr : g.rt r = some (some R)) (how : ∃ m1, R.m = .ow m1) (hl : live R hv (p.at e) = true) (hL : lens R.k R.m p = some ⟨.opt false s, m', get, put, ok⟩) (hok : ok e R.x = true) {y : s.T} (hy : get e R.x = some y)
    (ht : tyOk P t (.opt false s) = true) (hr' : g.rt r' = none) (hd : ∀ t, o.dst = some t → cx.T t) :
    o.wp P a w (fun a' w' => GSat cx (g.put o.dst (one (.own r')) (upd (upd g.rt r (some (some ⟨R.k, R.m, R.hv + 1, put e R.x none⟩))) r' (some (some ⟨s, m', 0, y⟩)))) a' w') Q := by
  obtain ⟨b, o', h1, h2⟩ := hx.loc_at hr hl (gok_lens' e hL hok)
  obtain ⟨Fa, Fo, Fb, c, hF, hc, H⟩ := h.hole hr e hL hok
  rcases H with ⟨c1, c2, k1, k2, _⟩ | ⟨b', c1, c2, T', hb, k2, k3, k4⟩
  · rw [k2 none] at h2; cases h2
  have := k2 none
  rw [h2] at this
  obtain ⟨rfl, rfl⟩ := Prod.mk.inj (Option.some.inj this)
  clear this
  have hca : CellsAt w b c1.length c := fun j v hj => by
    rw [cell_of_block k3]
    simpa using app_at c1 c c2 hj
  obtain ⟨v, hrun, hs⟩ := run_load_at ht hca (Rz_len _ _ _ _ _ _ _ hc) bare_size
  have hnd : (Fa ++ (Fo ++ Fb)).Nodup := hF ▸ h.mem.nodup r
  have n1 := List.nodup_append.1 hnd
  have n2 := List.nodup_append.1 n1.2.1
  have hFr : Fp r' = [] := h.mem.none r' (by rw [hr']; simp)
  have hne : r ≠ r' := fun e => by rw [e, hr'] at hr; cases hr
  obtain ⟨csr, hsr, hzr⟩ := h.mem.roots r R hr
  have hFo : ∀ u ∈ Fo, u ∉ Fa ++ Fb := fun u hu hu' => by
    rcases List.mem_append.1 hu' with hu' | hu'
    · exact n1.2.2 u hu' u (List.mem_append_left _ hu) rfl
    · exact n2.2.2 u hu u hu' rfl
  have hcy : Rz w (cx.Sh Fp) s m' Fo y c := by
    have hc : Rz w (cx.Sh Fp) (.opt false s) m' Fo (get e R.x) c := hc
    rw [hy] at hc
    rcases hc with hc | ⟨y', hc1, hc2⟩
    · cases hc.1
    · obtain rfl := Option.some.inj hc1; exact hc2
  have hlen := Rz_len _ _ _ _ _ _ _ hcy
  have hone := Rz_one _ _ _ _ _ _ _ hcy
  refine wp_val (v := v) (by simp only [execOp, ho, h1, Sem.run_bind, hrun, Result.andThen_ok]; rfl) ?_
  refine GSat.step (V' := upd V r' v) (Fp' := upd (upd Fp r (Fa ++ Fb)) r' Fo) (A := fun s => s = r ∨ s = r') h.defers h.size h.mem h.ents
    ⟨rfl, rfl, rfl, Nat.le_refl _, fun u _ _ => rfl, fun s hs => ?_, fun s hs u hu => ?_, fun s hs => ?_, fun s s' hs hs' hne' u hu hu' => ?_, fun s hs hn => ?_, fun s R' hs hR hK => ?_, fun s hs => ?_⟩ hd fun i ent hi => ?_
  · have h1 : s ≠ r := fun e => hs (.inl e)
    have h2 : s ≠ r' := fun e => hs (.inr e)
    exact ⟨by rw [upd_ne _ _ h2, upd_ne _ _ h1], upd_ne _ _ h2, by rw [upd_ne _ _ h2, upd_ne _ _ h1]⟩
  · refine .inr ⟨r, .inl rfl, ?_⟩
    rw [hF]
    rcases hs with rfl | rfl
    · rw [upd_ne _ _ hne, upd_same] at hu
      rcases List.mem_append.1 hu with hu | hu <;> simp [hu]
    · rw [upd_same] at hu
      simp [hu]
  · rcases hs with rfl | rfl
    · rw [upd_ne _ _ hne, upd_same]
      exact List.nodup_append.2 ⟨n1.1, n2.2.1, fun u hu v hv e => n1.2.2 u hu v (List.mem_append_right _ hv) e⟩
    · rw [upd_same]; exact n2.1
  · rcases hs with rfl | rfl
    · rcases hs' with rfl | rfl
      · exact hne' rfl
      · rw [upd_ne _ _ hne, upd_same] at hu
        rw [upd_same] at hu'
        exact hFo u hu' hu
    · rcases hs' with rfl | rfl
      · rw [upd_same] at hu
        rw [upd_ne _ _ hne, upd_same] at hu'
        exact hFo u hu hu'
      · exact hne' rfl
  · rcases hs with rfl | rfl
    · rw [upd_ne _ _ hne, upd_same] at hn; exact absurd rfl (hn _)
    · rw [upd_same] at hn; exact absurd rfl (hn _)
  · rcases hs with rfl | rfl
    · rw [upd_ne _ _ hne, upd_same] at hR
      obtain rfl := Option.some.inj (Option.some.inj hR)
      refine ⟨csr, by rw [upd_ne _ _ hne]; exact hsr, ?_⟩
      rw [upd_ne _ _ hne, upd_same, ← shows_hdr hsr]
      have hzn : Rz w (cx.Sh (upd (upd Fp s (Fa ++ Fb)) r' Fo)) (.opt false _) m' [] none c := .inl ⟨rfl, rfl, hlen, hone, fun h => by cases h⟩
      simpa using (k4 w _ m' R.m [] none c hK (fun _ _ _ => rfl) k3 (MSet_same e (lens_is _ _ _ _ hL)) hzn).1
    · rw [upd_same] at hR
      obtain rfl := Option.some.inj (Option.some.inj hR)
      exact ⟨c, by rw [upd_same]; exact hs, by rw [upd_same]; exact Rz_keep hK _ _ _ _ _ (fun _ _ => rfl) hcy⟩
  · rcases hs with rfl | rfl
    · rw [hr, upd_ne _ _ hne, upd_same]
      exact .inr ⟨R.m, _, _, rfl, upd_ne _ _ hne, .inr ⟨Nat.lt_succ_self _, fun _ _ => how, fun p' hp' => rfl⟩⟩
    · rw [hr']; trivial
  · unfold one at hi
    split at hi
    · rename_i h0; subst h0
      obtain rfl := Option.some.inj hi
      exact ⟨v, rfl, _, upd_same _ _ _, fun _ => (upd_same _ _ _).symm⟩
    · cases hi
/-- load: what stands there is looked at. -/
theorem op_load_subO (h : Pre cx g a w V Fp) {t : TypeId} {x : Operand} (ho : o.op = .load t x) {r hv : Nat} {R : GRoot} {E : Type} (e : E) {p : Path E} {s : Kt} {m' : Mk} {get : E → R.k.T → (Kt.opt false s).T} {put : E → R.k.T → (Kt.opt false s).T → R.k.T} {ok : E → R.k.T → Bool}
    (hx : ESat cx g.rt V Fp w (.loc r hv (p.at e)) (a.eval x)) (hr : g.rt r = some (some R)) (hl : live R hv (p.at e) = true) (hL : lens R.k R.m p = some ⟨.opt false s, m', get, put, ok⟩) (hok : ok e R.x = true) (hf : s.isAgg = false) (ht : tyOk P t (.opt false s) = true) (hd : ∀ t, o.dst = some t → cx.T t) :
    o.wp P a w (fun a' w' => GSat cx (g.put o.dst (one (.sub r R.hv (Path.at (p ++ [.sm]) e))) g.rt) a' w') Q := by
  obtain ⟨b, o', h1, h2⟩ := hx.loc_at hr hl (gok_lens' e hL hok)
  obtain ⟨Fo, c, T, c1, c2, h3, h4, h5, h6, h7, h8⟩ := hole_cells (h.hole hr e hL hok) h2
  obtain ⟨v, hrun, hs⟩ := run_load_at ht h8 (Rz_len _ _ _ _ _ _ _ h4) bare_size
  have hs : c = [v] := (shows_na (k := .opt false s) hf).1 hs
  obtain ⟨Fo', c', q3, q4, q5⟩ := h.comp hr e hL hok
  refine wp_val (v := v) (by simp only [execOp, ho, h1, Sem.run_bind, hrun, Result.andThen_ok]; rfl) (h.pure hd ⟨_, hr, fun R' hR' => ?_⟩)
  obtain rfl := Option.some.inj hR'
  refine ⟨Nat.le_refl _, fun _ _ => ⟨b, o', h5, ?_, ?_⟩⟩
  · rw [Path.at_append, q4, h2]
    show adr w (.opt false s) (some (b, o')) c' [.sm] = some (b, o')
    simp only [adr]
  · have := h8 0 v (by rw [hs]; rfl)
    simpa using this
end

section
variable {E : Type} {P : Program} {o : Oper} {s : Lst E} {gs : Gs}
def c_loadO (P : Program) (s : Lst E) (gs : Gs) (tk : Bool) (t : TypeId) (x : Operand) : Option (OR E) := match s.op gs x with
  | none => none
  | some en => match s.addr gs en with
    | some (.loc r hv p, c) => match s.root gs r with
      | none => none
      | some R => if liveS R hv p && R.m.isOw then match lens R.k R.m p with
        | some ⟨.opt false k, m', get, put, ok⟩ => if tyOk P t (.opt false k) && !k.isAgg then
            if tk then some ⟨andChk c (some fun e => ok e (R.x e) && Option.isSome (get e (R.x e))), [(0, .own s.nx)], [(s.nx, some ⟨k, m', 0, fun e => Option.getD (get e (R.x e)) k.dflt⟩), (r, some ⟨R.k, R.m, R.hv + 1, fun e => put e (R.x e) none⟩)], 1⟩
            else some ⟨andChk c (some fun e => ok e (R.x e)), [(0, .sub r R.hv (p ++ [.sm]))], [], 0⟩
          else none
        | _ => none
        else none
    | _ => none
theorem snd_loadO {tk : Bool} {t : TypeId} {x : Operand} {r : OR E} (ho : o.op = .load t x) (h : c_loadO P s gs tk t x = some r) : Snd P o s gs r := by
  unfold c_loadO at h
  have mx : x ∈ o.op.operands := by simp [ho, Op.operands]
  split at h <;> try (cases h; done)
  rename_i en hen
  split at h <;> try (cases h; done)
  rename_i r0 hv p c hc
  split at h <;> try (cases h; done)
  rename_i R hR
  split at h <;> try (cases h; done)
  rename_i hlv
  rw [Bool.and_eq_true] at hlv
  split at h <;> try (cases h; done)
  rename_i k m' get put ok hL
  split at h <;> try (cases h; done)
  rename_i ht
  rw [Bool.and_eq_true] at ht
  split at h
  · obtain rfl := Option.some.inj h
    intro cx e g a w V Fp Q h1 hok hA hd hp
    have hx := Lst.op_esat hp hA h1 mx hen
    have hr := fun r => Lst.op_root hA mx hen (r := r)
    rw [OR.ok_holds] at hok
    obtain ⟨k1, k2⟩ := andChk_holds hok
    have k2 : (ok e (R.x e) && Option.isSome (get e (R.x e))) = true := k2
    rw [Bool.and_eq_true] at k2
    obtain ⟨y, hy⟩ := Option.isSome_iff_exists.1 k2.2
    have hrt : g.rt r0 = some (some (R.ev e)) := (hr r0 (Lst.addr_roots hc r0 (List.mem_singleton_self _))).trans (Lst.root_gr h1 hR)
    have hnew : g.rt s.nx = none := by have := hA.new 0 (by simp); simpa using this
    have hne : s.nx ≠ r0 := fun e => by rw [e, hrt] at hnew; cases hnew
    have := op_load_takeO (Q := Q) (R := R.ev e) hp ho e (Lst.addr_esat hp h1 hc k1 hr hx) hrt (how_of hlv.2) (liveS_at hlv.1 e) hL k2.1 hy ht.1 hnew hd
    rw [evs_one, rtU_cons, rtU_cons, rtU_nil]
    have e1 : (Option.getD (get e (R.x e)) k.dflt : k.T) = y := by rw [hy]; rfl
    have e2 : upd (upd g.rt r0 (some (Option.map (Root.ev e) (some ⟨R.k, R.m, R.hv + 1, fun e => put e (R.x e) none⟩)))) s.nx (some (Option.map (Root.ev e) (some ⟨k, m', 0, fun e => Option.getD (get e (R.x e)) k.dflt⟩))) = upd (upd g.rt r0 (some (some ⟨R.k, R.m, R.hv + 1, put e (R.x e) none⟩))) s.nx (some (some ⟨k, m', 0, y⟩)) := by
      simp only [Option.map_some, Root.ev, e1]
    rw [e2]
    exact this
  · obtain rfl := Option.some.inj h
    intro cx e g a w V Fp Q h1 hok hA hd hp
    have hx := Lst.op_esat hp hA h1 mx hen
    have hr := fun r => Lst.op_root hA mx hen (r := r)
    rw [OR.ok_holds] at hok
    obtain ⟨k1, k2⟩ := andChk_holds hok
    have k2 : ok e (R.x e) = true := k2
    have hrt : g.rt r0 = some (some (R.ev e)) := (hr r0 (Lst.addr_roots hc r0 (List.mem_singleton_self _))).trans (Lst.root_gr h1 hR)
    rw [evs_one, rtU_nil]
    exact op_load_subO (R := R.ev e) hp ho e (Lst.addr_esat hp h1 hc k1 hr hx) hrt (liveS_at hlv.1 e) hL k2 (by simpa using ht.2) ht.1 hd

/-- store: into a place that may stand empty. -/
def c_storeO (P : Program) (s : Lst E) (gs : Gs) (t : TypeId) (x y : Operand) : Option (OR E) :=
  match s.op gs x, s.op gs y with
  | some en, some ey => match s.addr gs en with
    | some (.loc r hv p, c) => match s.root gs r with
      | some R => if liveS R hv p && R.m.isOw then match lens R.k R.m p with
        | some ⟨.opt false k, m', get, put, ok⟩ => if tyOk P t (.opt false k) then
            match ey with
            | .val k' z => if hk : k' = k then
                let mn := if m'.free then m' else .sh
                match mset R.k R.m p.sh mn with
                | some mr => some ⟨andChk c (some fun e => ok e (R.x e)), [], [(r, some ⟨R.k, mr, R.hv + 1, fun e => put e (R.x e) (some (hk ▸ z e))⟩)], 1⟩
                | none => none
              else none
            | .own q => if q = r then none else match s.root gs q with
              | some Rq => if hk : Rq.k = k then match mset R.k R.m p.sh Rq.m with
                | some mr => some ⟨andChk c (some fun e => ok e (R.x e)), [], [(r, some ⟨R.k, mr, R.hv + 1, fun e => put e (R.x e) (some (hk ▸ Rq.x e))⟩), (q, none)], 0⟩
                | none => none
                else none
              | none => none
            | .cst (.slice none 0 0) => match k, put with
              | .sl T el, put =>
                let mn := match m' with | .ow m => .ow m | _ => .ow (zm el)
                match mset R.k R.m p.sh mn with
                | some mr => some ⟨andChk c (some fun e => ok e (R.x e)), [], [(r, some ⟨R.k, mr, R.hv + 1, fun e => put e (R.x e) (some ([] : List el.T))⟩)], 1⟩
                | none => none
              | _, _ => none
            | _ => none
          else none
        | _ => none
        else none
      | none => none
    | _ => none
  | _, _ => none

theorem snd_storeO {t : TypeId} {x y : Operand} {r : OR E} (ho : o.op = .store t x y) (hdst : o.dst = none) (h : c_storeO P s gs t x y = some r) : Snd P o s gs r := by
  unfold c_storeO at h
  have mx : x ∈ o.op.operands := by simp [ho, Op.operands]
  have my : y ∈ o.op.operands := by simp [ho, Op.operands]
  split at h <;> try (cases h; done)
  rename_i en ey hen hey
  intro cx e g a w V Fp Q h1 hok hA hd hp
  have hx := Lst.op_esat hp hA h1 mx hen
  have hy := Lst.op_esat hp hA h1 my hey
  have hr := fun r => Lst.op_root hA mx hen (r := r)
  have hry := fun r => Lst.op_root hA my hey (r := r)
  rw [OR.ok_holds] at hok
  split at h <;> try (cases h; done)
  rename_i r hv p c hc
  split at h <;> try (cases h; done)
  rename_i R hR
  split at h <;> try (cases h; done)
  rename_i hlv
  rw [Bool.and_eq_true] at hlv
  obtain ⟨hlv, how⟩ := hlv
  split at h <;> try (cases h; done)
  rename_i k m' get put ok hL
  split at h <;> try (cases h; done)
  rename_i ht
  have hrt : g.rt r = _ := (hr r (Lst.addr_roots hc r (List.mem_singleton_self _))).trans (Lst.root_gr h1 hR)
  have noes : evs ([] : List (Nat × Ent E)) e = fun _ => none := rfl
  split at h
  · rename_i k' z
    split at h
    · rename_i hk
      subst hk
      dsimp only at h
      split at h
      · rename_i mr hms
        obtain rfl := Option.some.inj h
        obtain ⟨k1, k2⟩ := andChk_holds hok
        rw [noes, rtU_cons, rtU_nil]
        have hnew : g.rt s.nx = none := by have := hA.new 0 (by simp); simpa using this
        have hne : s.nx ≠ r := fun e => by rw [e, hrt] at hnew; cases hnew
        have hF : Fp s.nx = [] := hp.mem.none _ (by rw [hnew]; simp)
        obtain ⟨z1, z2⟩ := esat_cells hy
        refine op_store (R := R.ev e) hp ho e (Lst.addr_esat hp h1 hc k1 hr hx) hrt (liveS_at hlv e) hL k2 ht s.nx hne (how_of how) hms (y' := some (z e)) ⟨z2, ?_⟩ (by rw [hF]; simp) (upd_same _ _ _) (.inl ⟨upd_ne _ _ hne, hF⟩) (fun h => by rw [upd_ne _ _ hne, hnew] at h; cases h) (fun q h1 h2 => upd_ne _ _ h1) hdst
        rw [hF]
        refine .inr ⟨_, rfl, ?_⟩
        split
        · rename_i hf; exact Rz_unfree _ _ _ _ hf z1
        · exact z1
      · cases h
    · cases h
  · rename_i q
    split at h
    · cases h
    rename_i hqr
    split at h <;> try (cases h; done)
    rename_i Rq hRq
    split at h <;> try (cases h; done)
    rename_i hk
    split at h <;> try (cases h; done)
    rename_i mr hms
    obtain rfl := Option.some.inj h
    obtain ⟨k1, k2⟩ := andChk_holds hok
    rw [noes, rtU_cons, rtU_cons, rtU_nil]
    have hrq : g.rt q = _ := (hry q (List.mem_singleton_self _)).trans (Lst.root_gr h1 hRq)
    obtain ⟨R0, h3, h4⟩ := hy
    rw [hrq] at h3
    obtain rfl := Option.some.inj h3
    have hvv := h4 (by simp)
    obtain ⟨cs, z1, z2⟩ := hp.mem.roots q _ hrq
    have hcs : (a.eval y).cells.toList = cs := by
      rw [hvv]
      unfold Shows at z1
      split at z1
      · rw [z1]; rfl
      · rw [z1] at z2
        have := Rz_one _ _ _ _ _ _ _ z2 (V q) (List.mem_singleton_self _)
        rw [z1]
        cases hv : V q <;> rw [hv] at this <;> first | rfl | (simp [Value.oneCell'] at this; done)
    have aux : ∀ {k k' : Kt} (h : k = k') (x : k.T), Rz w (cx.Sh Fp) k Rq.m (Fp q) x cs → Rz w (cx.Sh Fp) k' Rq.m (Fp q) (h ▸ x) cs := by
      intro k k' h x hz; subst h; exact hz
    refine op_store (R := R.ev e) hp ho e (Lst.addr_esat hp h1 hc k1 hr hx) hrt (liveS_at hlv e) hL k2 ht q hqr (how_of how) hms (y' := some (hk ▸ Rq.x e)) ⟨?_, ?_⟩ (fun _ => ⟨_, hrq⟩) (upd_same _ _ _) (.inr (by rw [upd_ne _ _ hqr, upd_same]; rfl)) (fun _ => ⟨_, hrq⟩) (fun q' h1 h2 => by rw [upd_ne _ _ h1, upd_ne _ _ h2]) hdst
    · rw [hcs, hvv]
      show Shows k _ _
      rw [← hk]; exact z1
    · rw [hcs]
      exact .inr ⟨_, rfl, aux hk _ z2⟩
  · split at h <;> try (cases h; done)
    rename_i x1 T el put hL
    dsimp only at h
    split at h
    · rename_i mr hms
      obtain rfl := Option.some.inj h
      obtain ⟨k1, k2⟩ := andChk_holds hok
      rw [noes, rtU_cons, rtU_nil]
      have hnew : g.rt s.nx = none := by have := hA.new 0 (by simp); simpa using this
      have hne : s.nx ≠ r := fun e => by rw [e, hrt] at hnew; cases hnew
      have hF : Fp s.nx = [] := hp.mem.none _ (by rw [hnew]; simp)
      have hv : a.eval y = .slice none 0 0 := hy
      refine op_store (R := R.ev e) hp ho e (Lst.addr_esat hp h1 hc k1 hr hx) hrt (liveS_at hlv e) hL k2 ht s.nx hne (how_of how) hms (y' := some ([] : List el.T)) ⟨?_, ?_⟩ (by rw [hF]; simp) (upd_same _ _ _) (.inl ⟨upd_ne _ _ hne, hF⟩) (fun h => by rw [upd_ne _ _ hne, hnew] at h; cases h) (fun q h1 h2 => upd_ne _ _ h1) hdst
      · rw [hv]; rfl
      · rw [hF, hv]
        refine .inr ⟨_, rfl, ?_⟩
        split
        · exact .inl ⟨rfl, rfl, rfl⟩
        · exact .inl ⟨rfl, rfl, rfl⟩
    · cases h
  · cases h

/-! ### functions that yield a place within what is handed in -/
structure PfSpec (P : Program) where
  f : FuncId
  T : TypeId
  e : Kt
  m : Mk
  vals : List Kt
  path : Path ((Kt.ptr T e).T × HL ((vals.map fun k => (k, PM.val)).map (·.1)))
  chk : (Kt.ptr T e).T × HL ((vals.map fun k => (k, PM.val)).map (·.1)) → Bool
  ok : ∀ x d, chk (x, d) = true → ∀ (w : World) (S S' : Nat → Prop) v vs F, Rz w S (.ptr T e) (.ow m) F x [v] → ArgsR w S' (vals.map fun k => (k, PM.val)) d vs [] →
    Calls P f (v :: vs).toArray w fun en w' => (w'.os = w.os ∧ w'.tape = w.tape ∧ w'.output = w.output ∧ w'.heap = w.heap) ∧ ∃ b o, en = .returned (.pointer (some ⟨b, o, none⟩)) ∧ adr w' (.ptr T e) none [v] (path.at (x, d)) = some (b, o)
def c_pcall (P : Program) (pf : List (PfSpec P)) (s : Lst E) (gs : Gs) (f : FuncId) (xs : List Operand) : Option (OR E) := match pf.find? (·.f == f), xs with
  | some q, x :: xs => match s.op gs x with
    | some (.own r) => match s.root gs r with
      | some R => if hk : R.k = .ptr q.T q.e then if R.m = .ow q.m ∧ callOk P f = true then match c_args s gs (q.vals.map fun k => (k, PM.val)) xs with
          | some A => if A.os.isEmpty then some ⟨some fun e => q.chk (hk ▸ R.x e, A.d e), [(0, .loc r R.hv (q.path.pull fun e => (hk ▸ R.x e, A.d e)))], [], 0⟩ else none
          | none => none
          else none else none
      | none => none
    | _ => none
  | _, _ => none
theorem snd_pcall {pf : List (PfSpec P)} {f : FuncId} {xs : List Operand} {ta : Array TypeId} {r : OR E} (ho : o.op = .call { callee := .value (.func f), args := xs.toArray, argTypes := ta }) (h : c_pcall P pf s gs f xs = some r) : Snd P o s gs r := by
  unfold c_pcall at h
  split at h <;> try (cases h; done)
  rename_i q x xs hq
  have hqf : q.f = f := by have := List.find?_some hq; simpa using this
  have mm : ∀ y ∈ x :: xs, y ∈ o.op.operands := by intro y hy; simp [ho, Op.operands, Call.operands] at hy ⊢; grind
  have mx := mm x (List.mem_cons_self ..)
  split at h <;> try (cases h; done)
  rename_i r0 hx
  split at h <;> try (cases h; done)
  rename_i R hR
  split at h <;> try (cases h; done)
  rename_i hk
  split at h <;> try (cases h; done)
  rename_i hm
  split at h <;> try (cases h; done)
  rename_i A hA0
  split at h <;> try (cases h; done)
  rename_i hos
  obtain rfl := Option.some.inj h
  intro cx e g a w V Fp Q h1 hok hA hd hp
  obtain ⟨Rk, Rm, Rhv, Rx⟩ := R
  have hk : Rk = .ptr q.T q.e := hk
  subst hk
  have hm1 : Rm = .ow q.m := hm.1
  subst hm1
  have hok : q.chk (Rx e, A.d e) = true := hok
  have hrt : g.rt r0 = _ := (Lst.op_root hA mx hx (List.mem_singleton_self _)).trans (Lst.root_gr h1 hR)
  obtain ⟨R0, h3, h4⟩ := Lst.op_esat hp hA h1 mx hx
  rw [hrt] at h3
  obtain rfl := Option.some.inj h3
  have hvv : a.eval x = V r0 := h4 (by simp)
  obtain ⟨cs, z1, z2⟩ := hp.mem.roots r0 _ hrt
  have z1 : cs = [V r0] := (shows_na rfl).1 z1
  subst z1
  have hargs := (c_args_spec hp hA h1 A.bs _ xs A hA0 (fun y hy => mm y (List.mem_cons_of_mem _ hy)) (fun r h => h)).1
  have hos : A.os = [] := List.isEmpty_iff.1 hos
  rw [hos] at hargs
  have hcalls := q.ok (Rx e) (A.d e) hok w _ _ (V r0) _ _ z2 hargs
  have hrun : (execOp a.eval o).run P w = .ok (.enter f ((x :: xs).map a.eval).toArray) w := by
    have hc1 := hm.2
    unfold callOk at hc1
    split at hc1 <;> try (cases hc1; done)
    rename_i fn hfn
    simp only [Bool.and_eq_true, Bool.not_eq_true'] at hc1
    have n1 : fn.name ≠ "runtime.NumGoroutine" := by simpa using hc1.1
    have n2 : fn.body ≠ none := by intro h0; rw [h0] at hc1; cases hc1.2
    simp [execOp, ho, resolve, Act.eval, Deferred.ofValue, invoke, callFunc, hfn, n1, n2]
  rw [hqf, ← hvv] at hcalls
  unfold Oper.wp
  rw [hrun]
  refine hcalls.mono fun en w' hen => ?_
  obtain ⟨⟨h1, h2, h3, h4⟩, b, o', rfl, hadr⟩ := hen
  show GSat cx (g.put o.dst _ _) (a.put o.dst _) w'
  rw [evs_one, rtU_nil]
  refine GSat.step hp.defers hp.size hp.mem hp.ents (Step.id h1 h2 h3 h4) hd fun i ent hi => ?_
  unfold one at hi
  split at hi <;> try (cases hi; done)
  rename_i h0
  subst h0
  obtain rfl := Option.some.inj hi
  refine ⟨_, rfl, ?_⟩
  simp only [Ent.ev, Path.at_pull]
  refine esat_loc hrt ?_
  show adr w' (.ptr q.T q.e) none (hdr (.ptr q.T q.e) (V r0)) _ = _
  rw [hdr_na rfl, ← hvv]
  exact hadr
end
end Go.Lift

namespace Go.Lift
set_option linter.unusedVariables false
set_option linter.unusedSimpArgs false

section
variable {E : Type} {P : Program} {o : Oper} {s : Lst E} {gs : Gs}

/-! ### is a pointer nil? -/
/-- Whether what stands there is nil. -/
def nilF (s : Lst E) (gs : Gs) (x : Operand) : Option ((E → Bool) × Option (E → Bool)) := match s.op gs x with
  | some (.val (.opt true (.ptr _ _)) z) => some (fun e => Option.isNone (z e), none)
  | some (.val (.ptr _ _) _) => some (fun _ => false, none)
  | some (.own r) => match s.root gs r with
    | some ⟨.opt true (.ptr _ _), m, _, z⟩ => if m = .ho then none else some (fun e => Option.isNone (z e), none)
    | some ⟨.ptr _ _, .ow _, _, _⟩ => some (fun _ => false, none)
    | _ => none
  | some (.sub r hv p) => match s.root gs r with
    | some R => if R.hv = hv then match lens R.k R.m p with
      | some ⟨.opt true (.ptr T k), m', get, put, ok⟩ => if m' = .ho then none else some (fun e => Option.isNone (get e (R.x e)), okChk R p ⟨.opt true (.ptr T k), m', get, put, ok⟩)
      | _ => none
      else none
    | none => none
  | some (.cst (.pointer none)) => some (fun _ => true, none)
  | _ => none
def isPtr (P : Program) (t : TypeId) : Bool := match P.underlying t with
  | some (.pointer _) => true
  | _ => false
def c_eqN (P : Program) (s : Lst E) (gs : Gs) (op : BinOp) (t : TypeId) (x y : Operand) : Option (OR E) := match y with
  | .const (.pointer none) => if isPtr P t then match nilF s gs x with
      | some (f, c) => match op with
        | .eql => some ⟨c, [(0, .val .bool f)], [], 0⟩
        | .neq => some ⟨c, [(0, .val .bool fun e => !f e)], [], 0⟩
        | _ => none
      | none => none
    else none
  | _ => none
theorem isPtr_spec {t : TypeId} (h : isPtr P t = true) : ∃ e, P.underlying t = some (.pointer e) := by
  unfold isPtr at h
  split at h <;> try (cases h; done)
  exact ⟨_, ‹_›⟩
theorem run_eqN {t : TypeId} (h : isPtr P t = true) (A : Option Addr) (w : World) : (Op.equal t (.pointer A) (.pointer none)).run P w = .ok A.isNone w := by
  obtain ⟨e, h⟩ := isPtr_spec h
  unfold Op.equal
  rw [show Op.maxDepth = 9999 + 1 from rfl, Op.equalIn]
  cases A <;> simp [run_underlying h]
theorem opt_nil {w : World} {S : Nat → Prop} {T : TypeId} {k : Kt} {m : Mk} {F : List Nat} {z : Option k.T} {v : Value} {cs : List Value} (hm : m ≠ .ho) (h1 : Shows (.opt true (.ptr T k)) v cs) (h2 : Rz w S (.opt true (.ptr T k)) m F z cs) :
    ∃ A, v = .pointer A ∧ z.isNone = A.isNone := by
  have h1 : cs = [v] := h1
  rcases h2 with ⟨h3, _, _, _, h4⟩ | ⟨y, h3, h4⟩
  · have h3 : z = none := h3
    rw [h1] at h4
    exact ⟨none, (List.cons.inj (h4 rfl)).1, by rw [h3]; rfl⟩
  · have h3 : z = some y := h3
    have : ∃ a, v = .pointer (some a) := by
      cases m with
      | ow m =>
        obtain ⟨g, C, Fe, h5, _⟩ := h4
        rw [h1] at h5
        exact ⟨_, (List.cons.inj h5).1⟩
      | ho => exact absurd rfl hm
      | sh =>
        obtain ⟨_, b, o, cc, h5, _⟩ := h4.2.resolve_left fun h => by cases h.1
        rw [h1] at h5
        exact ⟨_, (List.cons.inj h5).1⟩
      | pr a b =>
        obtain ⟨_, b, o, cc, h5, _⟩ := h4.2.resolve_left fun h => by cases h.1
        rw [h1] at h5
        exact ⟨_, (List.cons.inj h5).1⟩
    obtain ⟨a, ha⟩ := this
    exact ⟨_, ha, by rw [h3]; rfl⟩
theorem snd_eqN {op : BinOp} {t t' : TypeId} {x y : Operand} {r : OR E} (ho : o.op = .binOp op t x y t') (h : c_eqN P s gs op t x y = some r) : Snd P o s gs r := by
  unfold c_eqN at h
  have mx : x ∈ o.op.operands := by simp [ho, Op.operands]
  split at h <;> try (cases h; done)
  split at h <;> try (cases h; done)
  rename_i hi
  split at h <;> try (cases h; done)
  rename_i f c hf
  have key : ∀ (cx : Cx) (e : E) (g : G) (ac : Act) (w : World) (V : Nat → Value) (Fp : Nat → List Nat), s.on gs e = true → Agree g s e (opTmps o) 0 → Pre cx g ac w V Fp → chkHolds c e = true → ∃ A, ac.eval x = .pointer A ∧ f e = A.isNone := by
    intro cx e g ac w V Fp h1 hA hp hok
    unfold nilF at hf
    split at hf <;> try (cases hf; done)
    · rename_i T k z hx
      obtain ⟨rfl, rfl⟩ := Prod.mk.inj (Option.some.inj hf)
      obtain ⟨cs, c1, c2⟩ := Lst.op_esat hp hA h1 mx hx
      obtain ⟨A, h2, h3⟩ := opt_nil (by simp) c1 c2
      exact ⟨A, h2, h3⟩
    · rename_i T k z hx
      obtain ⟨rfl, rfl⟩ := Prod.mk.inj (Option.some.inj hf)
      obtain ⟨cs, c1, c2⟩ := Lst.op_esat hp hA h1 mx hx
      have c1 : cs = [ac.eval x] := c1
      obtain ⟨_, b, o, cc, h5, _⟩ := c2.2.resolve_left fun h => by cases h.1
      rw [c1] at h5
      exact ⟨_, (List.cons.inj h5).1, rfl⟩
    · rename_i q hx
      split at hf <;> try (cases hf; done)
      · rename_i T k m hv z hR
        split at hf <;> try (cases hf; done)
        rename_i hm
        obtain ⟨rfl, rfl⟩ := Prod.mk.inj (Option.some.inj hf)
        have hrt := (Lst.op_root hA mx hx (List.mem_singleton_self _)).trans (Lst.root_gr h1 hR)
        obtain ⟨R0, e1, e2⟩ := Lst.op_esat hp hA h1 mx hx
        rw [hrt] at e1
        obtain rfl := Option.some.inj e1
        have e2 : ac.eval x = V q := e2 (by simp)
        obtain ⟨cs, z1, z2⟩ := hp.mem.roots q _ hrt
        obtain ⟨A, h2, h3⟩ := opt_nil hm z1 z2
        exact ⟨A, e2.trans h2, h3⟩
      · rename_i T k m hv z hR
        obtain ⟨rfl, rfl⟩ := Prod.mk.inj (Option.some.inj hf)
        have hrt := (Lst.op_root hA mx hx (List.mem_singleton_self _)).trans (Lst.root_gr h1 hR)
        obtain ⟨R0, e1, e2⟩ := Lst.op_esat hp hA h1 mx hx
        rw [hrt] at e1
        obtain rfl := Option.some.inj e1
        have e2 : ac.eval x = V q := e2 (by simp)
        obtain ⟨cs, z1, z2⟩ := hp.mem.roots q _ hrt
        have z1 : cs = [V q] := z1
        obtain ⟨g0, C, Fe, h5, _⟩ := z2
        rw [z1] at h5
        exact ⟨_, e2.trans (List.cons.inj h5).1, rfl⟩
    · rename_i q hv p hx
      split at hf <;> try (cases hf; done)
      rename_i R hR
      split at hf <;> try (cases hf; done)
      rename_i hh
      split at hf <;> try (cases hf; done)
      rename_i T k m' get put ok hL
      split at hf <;> try (cases hf; done)
      rename_i hm
      obtain ⟨rfl, rfl⟩ := Prod.mk.inj (Option.some.inj hf)
      have hokL := okChk_holds hL hok
      have hrt := (Lst.op_root hA mx hx (List.mem_singleton_self _)).trans (Lst.root_gr h1 hR)
      obtain ⟨R0, e1, e2⟩ := Lst.op_esat hp hA h1 mx hx
      rw [hrt] at e1
      obtain rfl := Option.some.inj e1
      obtain ⟨b, o', hbF, hadr, hcell⟩ := (e2 (R.ev e) rfl).2 hh (gok_lens' (k := R.k) e hL hokL)
      obtain ⟨Fo, c', T', c1, c2, h3, h4, h5, h6, h7, h8⟩ := hole_cells (hp.hole (R := R.ev e) hrt e hL hokL) hadr
      have hlc : c'.length = 1 := Rz_len _ _ _ _ _ _ _ h4
      obtain ⟨v0, rfl⟩ : ∃ v0, c' = [v0] := by
        match c', hlc with
        | [v0], _ => exact ⟨v0, rfl⟩
      have h9 := h8 0 v0 rfl
      rw [Nat.add_zero, hcell] at h9
      have h9 : ac.eval x = v0 := Option.some.inj h9
      obtain ⟨A, k2, k3⟩ := opt_nil hm (show Shows (.opt true (.ptr T k)) v0 [v0] from (shows_na rfl).2 rfl) h4
      exact ⟨A, h9.trans k2, k3⟩
    · rename_i hx
      obtain ⟨rfl, rfl⟩ := Prod.mk.inj (Option.some.inj hf)
      have : ac.eval x = .pointer none := Lst.op_esat hp hA h1 mx hx
      exact ⟨none, this, rfl⟩
  split at h <;> try (cases h; done)
  · obtain rfl := Option.some.inj h
    refine Snd.value fun cx e g ac w V Fp h1 hok hA hp => ?_
    obtain ⟨A, h2, h3⟩ := key cx e g ac w V Fp h1 hA hp (by have := hok; rw [OR.ok_holds] at this; exact this)
    refine ⟨.bool A.isNone, ?_, ?_⟩
    · simp [execOp, ho, h2, show ac.eval (.const (.pointer none)) = .pointer none from rfl, eqGuard, binOp, run_eqN hi]
    · show ESat _ _ _ _ _ (.val .bool (f e)) _
      rw [h3]; exact esat_bool _
  · obtain rfl := Option.some.inj h
    refine Snd.value fun cx e g ac w V Fp h1 hok hA hp => ?_
    obtain ⟨A, h2, h3⟩ := key cx e g ac w V Fp h1 hA hp (by have := hok; rw [OR.ok_holds] at this; exact this)
    refine ⟨.bool !A.isNone, ?_, ?_⟩
    · simp [execOp, ho, h2, show ac.eval (.const (.pointer none)) = .pointer none from rfl, eqGuard, binOp, run_eqN hi]
    · show ESat _ _ _ _ _ (.val .bool (!f e)) _
      rw [h3]; exact esat_bool _
end

/-! ### a call that changes a part -/
section
variable {P : Program} {cx : Cx} {g : G} {a : Act} {w : World} {V : Nat → Value} {Fp : Nat → List Nat}

/-- A part is taken out of its root; nothing is done for it. -/
theorem Pre.takeOutS (h : Pre cx g a w V Fp) {t : Tmp} {r r' : Nat} {R : GRoot} {E : Type} (e : E) {p : Path E} {L : Lens E R.k} {ent0 : GEnt} (hx : g.tm (t, 0) = some ent0) (hx0 : ∀ v, ESat cx g.rt V Fp w ent0 v → ESat cx g.rt V Fp w (.sub r R.hv (p.at e)) v)
    (hr : g.rt r = some (some R)) (how : ∃ m1, R.m = .ow m1) (hL : lens R.k R.m p = some L) (hok : L.ok e R.x = true) (hk : L.k'.isAgg = false ∧ L.k'.size = 1) {mr : Mk} (hms : mset R.k R.m p.sh .ho = some mr) (hr' : g.rt r' = none) :
    ∃ V' Fp' v b o', Pre cx ⟨fun q => if q = (t, 0) then some (.own r') else g.tm q, upd (upd g.rt r (some (some ⟨R.k, mr, R.hv + 1, L.put e R.x (L.get e R.x)⟩))) r' (some (some ⟨L.k', L.m', 0, L.get e R.x⟩))⟩ a w V' Fp' ∧
      V' r = V r ∧ V' r' = v ∧ b ∈ Fp' r ∧ adr w R.k none (hdr R.k (V r)) (p.at e) = some (b, o') ∧ w.cell? ⟨b, o', none⟩ = some v := by
  obtain ⟨v, u, hv1, hv2, hv3⟩ := h.ents t 0 _ hx
  obtain ⟨R0, q1, q2⟩ := hx0 u hv3
  obtain rfl := Option.some.inj hv2
  rw [hr] at q1
  obtain rfl := Option.some.inj q1
  obtain ⟨b, o', hbF, hadr, hcell⟩ := (q2 R rfl).2 rfl (gok_lens' e hL hok)
  obtain ⟨Fa, Fo, Fb, c, hF, hc, H⟩ := h.hole hr e hL hok
  rcases H with ⟨c1, c2, k1, k2, _⟩ | ⟨b', c1, c2, T', hb, k2, k3, k4⟩
  · rw [k2 none] at hadr; cases hadr
  have hadr0 := hadr
  have hcell0 := hcell
  have := k2 none
  rw [hadr] at this
  obtain ⟨rfl, rfl⟩ := Prod.mk.inj (Option.some.inj this)
  clear this
  have hlc := Rz_len _ _ _ _ _ _ _ hc
  rw [hk.2] at hlc
  obtain ⟨v0, rfl⟩ : ∃ v0, c = [v0] := by
    match c, hlc with
    | [v0], _ => exact ⟨v0, rfl⟩
  have hv0 : v = v0 := by
    rw [cell_of_block k3] at hcell
    simpa using hcell.symm
  subst hv0
  have hnd : (Fa ++ (Fo ++ Fb)).Nodup := hF ▸ h.mem.nodup r
  have n1 := List.nodup_append.1 hnd
  have n2 := List.nodup_append.1 n1.2.1
  have hFr : Fp r' = [] := h.mem.none r' (by rw [hr']; simp)
  have hne : r ≠ r' := fun e => by rw [e, hr'] at hr; cases hr
  obtain ⟨csr, hsr, hzr⟩ := h.mem.roots r R hr
  have hFo : ∀ u ∈ Fo, u ∉ Fa ++ Fb := fun u hu hu' => by
    rcases List.mem_append.1 hu' with hu' | hu'
    · exact n1.2.2 u hu' u (List.mem_append_left _ hu) rfl
    · exact n2.2.2 u hu u hu' rfl
  have hst : Step cx g.rt (upd (upd g.rt r (some (some ⟨R.k, mr, R.hv + 1, L.put e R.x (L.get e R.x)⟩))) r' (some (some ⟨L.k', L.m', 0, L.get e R.x⟩))) V (upd V r' v) Fp (upd (upd Fp r (Fa ++ Fb)) r' Fo) w w (fun s => s = r ∨ s = r') := by
    refine ⟨rfl, rfl, rfl, Nat.le_refl _, fun u _ _ => rfl, fun s hs => ?_, fun s hs u hu => ?_, fun s hs => ?_, fun s s' hs hs' hne' u hu hu' => ?_, fun s hs hn => ?_, fun s R' hs hR hK => ?_, fun s hs => ?_⟩
    · have h1 : s ≠ r := fun e => hs (.inl e)
      have h2 : s ≠ r' := fun e => hs (.inr e)
      exact ⟨by rw [upd_ne _ _ h2, upd_ne _ _ h1], upd_ne _ _ h2, by rw [upd_ne _ _ h2, upd_ne _ _ h1]⟩
    · refine .inr ⟨r, .inl rfl, ?_⟩
      rw [hF]
      rcases hs with rfl | rfl
      · rw [upd_ne _ _ hne, upd_same] at hu
        rcases List.mem_append.1 hu with hu | hu <;> simp [hu]
      · rw [upd_same] at hu
        simp [hu]
    · rcases hs with rfl | rfl
      · rw [upd_ne _ _ hne, upd_same]
        exact List.nodup_append.2 ⟨n1.1, n2.2.1, fun u hu v hv e => n1.2.2 u hu v (List.mem_append_right _ hv) e⟩
      · rw [upd_same]; exact n2.1
    · rcases hs with rfl | rfl
      · rcases hs' with rfl | rfl
        · exact hne' rfl
        · rw [upd_ne _ _ hne, upd_same] at hu
          rw [upd_same] at hu'
          exact hFo u hu' hu
      · rcases hs' with rfl | rfl
        · rw [upd_same] at hu
          rw [upd_ne _ _ hne, upd_same] at hu'
          exact hFo u hu hu'
        · exact hne' rfl
    · rcases hs with rfl | rfl
      · rw [upd_ne _ _ hne, upd_same] at hn; exact absurd rfl (hn _)
      · rw [upd_same] at hn; exact absurd rfl (hn _)
    · rcases hs with rfl | rfl
      · rw [upd_ne _ _ hne, upd_same] at hR
        obtain rfl := Option.some.inj (Option.some.inj hR)
        refine ⟨csr, by rw [upd_ne _ _ hne]; exact hsr, ?_⟩
        rw [upd_ne _ _ hne, upd_same, ← shows_hdr hsr]
        have hzn : Rz w (cx.Sh (upd (upd Fp s (Fa ++ Fb)) r' Fo)) L.k' .ho [] (L.get e R.x) [v] := Rz_keep hK _ _ _ _ _ (by simp) (Rz_ho _ _ _ _ _ hc)
        simpa using (k4 w _ .ho mr [] (L.get e R.x) [v] hK (fun _ _ _ => rfl) k3 (mset_spec e p _ _ _ _ hms) hzn).1
      · rw [upd_same] at hR
        obtain rfl := Option.some.inj (Option.some.inj hR)
        exact ⟨[v], by rw [upd_same]; exact (shows_na hk.1).2 rfl, by rw [upd_same]; exact Rz_keep hK _ _ _ _ _ (fun _ _ => rfl) hc⟩
    · rcases hs with rfl | rfl
      · rw [hr, upd_ne _ _ hne, upd_same]
        exact .inr ⟨mr, _, _, rfl, upd_ne _ _ hne, .inr ⟨Nat.lt_succ_self _, fun _ _ => how, fun p' hp' => rfl⟩⟩
      · rw [hr']; trivial
  refine ⟨_, _, v, b, _, ⟨h.defers, h.size, hst.mem h.mem, fun t' i ent he => ?_⟩, upd_ne _ _ hne, upd_same _ _ _, by rw [upd_ne _ _ hne, upd_same]; exact List.mem_append_left _ hb, hadr0, hcell0⟩
  by_cases hq : (t', i) = (t, 0)
  · simp only [hq, if_true] at he
    obtain rfl := Option.some.inj he
    obtain ⟨rfl, rfl⟩ := Prod.mk.inj hq
    exact ⟨v, v, hv1, rfl, _, upd_same _ _ _, fun _ => (upd_same _ _ _).symm⟩
  · simp only [hq, if_false] at he
    obtain ⟨v', u', h1, h2, h3⟩ := h.ents t' i ent he
    exact ⟨v', u', h1, h2, hst.esat h.mem h3⟩

/-- A part is put back: its cell holds its header all the while. -/
theorem Pre.putBack (h : Pre cx g a w V Fp) {r r' : Nat} {R : GRoot} {E : Type} (e : E) {p : Path E} {L : Lens E R.k} (hr : g.rt r = some (some R)) (how : ∃ m1, R.m = .ow m1) (hL : lens R.k R.m p = some L) (hok : L.ok e R.x = true)
    {m' : Mk} {hv' : Nat} {y : L.k'.T} (hr' : g.rt r' = some (some ⟨L.k', m', hv', y⟩)) (hne : r ≠ r') (hk : L.k'.isAgg = false ∧ L.k'.size = 1) {mb : Mk} (hms : mset R.k R.m p.sh m' = some mb) {b o' : Nat}
    (hadr : adr w R.k none (hdr R.k (V r)) (p.at e) = some (b, o')) (hcell : w.cell? ⟨b, o', none⟩ = some (V r')) :
    ∃ Fp', Pre cx ⟨g.tm, upd (upd g.rt r (some (some ⟨R.k, mb, R.hv + 1, L.put e R.x y⟩))) r' (some none)⟩ a w V Fp' := by
  obtain ⟨Fa, Fo, Fb, c, hF, hc, H⟩ := h.hole hr e hL hok
  rcases H with ⟨c1, c2, k1, k2, _⟩ | ⟨b', c1, c2, T', hb, k2, k3, k4⟩
  · rw [k2 none] at hadr; cases hadr
  have := k2 none
  rw [hadr] at this
  obtain ⟨rfl, rfl⟩ := Prod.mk.inj (Option.some.inj this)
  clear this
  have hlc := Rz_len _ _ _ _ _ _ _ hc
  rw [hk.2] at hlc
  obtain ⟨v0, rfl⟩ : ∃ v0, c = [v0] := by
    match c, hlc with
    | [v0], _ => exact ⟨v0, rfl⟩
  have hv0 : V r' = v0 := by
    rw [cell_of_block k3] at hcell
    simpa using hcell.symm
  subst hv0
  have hnd : (Fa ++ (Fo ++ Fb)).Nodup := hF ▸ h.mem.nodup r
  have n1 := List.nodup_append.1 hnd
  have n2 := List.nodup_append.1 n1.2.1
  have hdis := h.mem.disj r r' hne
  obtain ⟨csr, hsr, hzr⟩ := h.mem.roots r R hr
  obtain ⟨csy, hsy, hzy⟩ := h.mem.roots r' _ hr'
  have hsy : csy = [V r'] := (shows_na hk.1).1 hsy
  subst hsy
  have hmem1 : ∀ u ∈ Fa ++ (Fp r' ++ Fb), u ∈ Fp r ∨ u ∈ Fp r' := by
    intro u hu
    rw [hF]
    simp only [List.mem_append] at hu ⊢
    grind
  have hst : Step cx g.rt (upd (upd g.rt r (some (some ⟨R.k, mb, R.hv + 1, L.put e R.x y⟩))) r' (some none)) V V Fp (upd (upd Fp r (Fa ++ (Fp r' ++ Fb))) r' []) w w (fun s => s = r ∨ s = r') := by
    refine ⟨rfl, rfl, rfl, Nat.le_refl _, fun u _ _ => rfl, fun s hs => ?_, fun s hs u hu => ?_, fun s hs => ?_, fun s s' hs hs' hne' u hu hu' => ?_, fun s hs hn => ?_, fun s R' hs hR hK => ?_, fun s hs => ?_⟩
    · have h1 : s ≠ r := fun e => hs (.inl e)
      have h2 : s ≠ r' := fun e => hs (.inr e)
      exact ⟨by rw [upd_ne _ _ h2, upd_ne _ _ h1], rfl, by rw [upd_ne _ _ h2, upd_ne _ _ h1]⟩
    · rcases hs with rfl | rfl
      · rw [upd_ne _ _ hne, upd_same] at hu
        rcases hmem1 u hu with hu | hu
        · exact .inr ⟨s, .inl rfl, hu⟩
        · exact .inr ⟨r', .inr rfl, hu⟩
      · rw [upd_same] at hu; cases hu
    · rcases hs with rfl | rfl
      · rw [upd_ne _ _ hne, upd_same]
        have hr1 := h.mem.nodup r'
        refine List.nodup_append.2 ⟨n1.1, List.nodup_append.2 ⟨hr1, n2.2.1, fun u hu v hv e => ?_⟩, fun u hu v hv e => ?_⟩
        · subst e
          exact hdis u (by rw [hF]; simp [hv]) hu
        · subst e
          rcases List.mem_append.1 hv with hv | hv
          · exact hdis u (by rw [hF]; simp [hu]) hv
          · exact n1.2.2 u hu u (List.mem_append_right _ hv) rfl
      · rw [upd_same]; exact List.nodup_nil
    · rcases hs with rfl | rfl
      · rcases hs' with rfl | rfl
        · exact hne' rfl
        · rw [upd_same] at hu'; cases hu'
      · rw [upd_same] at hu; cases hu
    · rcases hs with rfl | rfl
      · rw [upd_ne _ _ hne, upd_same] at hn; exact absurd rfl (hn _)
      · exact upd_same _ _ _
    · rcases hs with rfl | rfl
      · rw [upd_ne _ _ hne, upd_same] at hR
        obtain rfl := Option.some.inj (Option.some.inj hR)
        refine ⟨csr, hsr, ?_⟩
        rw [upd_ne _ _ hne, upd_same, ← shows_hdr hsr]
        have hzn := Rz_keep hK _ _ _ _ _ (fun _ _ => rfl) hzy
        exact (k4 w _ m' mb (Fp r') y [V r'] hK (fun _ _ _ => rfl) k3 (mset_spec e p _ _ _ _ hms) hzn).1
      · rw [upd_same] at hR; cases hR
    · rcases hs with rfl | rfl
      · rw [hr, upd_ne _ _ hne, upd_same]
        exact .inr ⟨mb, _, _, rfl, rfl, .inr ⟨Nat.lt_succ_self _, fun _ _ => how, fun p' hp' => rfl⟩⟩
      · rw [hr', upd_same]; exact .inl rfl
  refine ⟨_, h.defers, h.size, hst.mem h.mem, fun t' i ent he => ?_⟩
  obtain ⟨v', u', h1, h2, h3⟩ := h.ents t' i ent he
  exact ⟨v', u', h1, h2, hst.esat h.mem h3⟩
end

section
variable {E : Type} {P : Program} {o : Oper} {s : Lst E} {gs : Gs}
/-- A part that is handed to a call. -/
structure TP (E : Type) where
  t : Tmp
  r : Nat
  R : Root E
  p0 : Path E
  p : Path E
  L : Lens E R.k
  mr : Mk
def takeP (s : Lst E) (gs : Gs) : Operand → Option (TP E)
  | .tmp t => match s.at gs (t, 0) with
    | some (.sub r hv p) => match s.root gs r with
      | some R => if R.hv = hv ∧ R.m.isOw = true then match lens R.k R.m p with
        | some L => if L.k'.isAgg = false ∧ L.k'.size = 1 then match mset R.k R.m p.sh .ho with
          | some mr => match L.k' with
            | .opt _ _ => match lens R.k R.m (p ++ [.sm]), mset R.k R.m (Path.sh (p ++ [.sm])) .ho with
              | some L', some mr' => if L'.k'.isAgg = false ∧ L'.k'.size = 1 then some ⟨t, r, R, p, p ++ [.sm], L', mr'⟩ else none
              | _, _ => none
            | _ => some ⟨t, r, R, p, p, L, mr⟩
          | none => none
          else none
        | none => none
        else none
      | none => none
    | _ => none
  | _ => none
def TP.x2 (q : TP E) (ε : E) : q.R.k.T := q.L.put ε (q.R.x ε) (q.L.get ε (q.R.x ε))
def TP.st (q : TP E) (s : Lst E) (gs : Gs) : Lst E :=
  ⟨((q.t, 0), ⟨gs, .own s.nx⟩) :: s.tm, (s.nx, (gs, some ⟨q.L.k', q.L.m', 0, fun ε => q.L.get ε (q.R.x ε)⟩)) :: (q.r, (gs, some ⟨q.R.k, q.mr, q.R.hv + 1, q.x2⟩)) :: s.rt, s.nx + 1⟩
def c_callP1 (P : Program) (s : Lst E) (gs : Gs) (f : FuncId) (xs : List Operand) (q : TP E) (sp : Spec) : Option (OC E) := match c_args (q.st s gs) gs sp.sig.ps xs with
    | none => none
    | some A => if callOk P f && nodupB A.os && disjB A.os A.bs && A.os.all (fun r => A.ms.contains r || A.ts.contains r) && (A.bs.isEmpty || tightSig sp.sig) && !(A.ms ++ A.ts).contains q.r then
        let rr := c_res (E' := E × (HL (sp.sig.rs.map (·.1)) × HL ((mutsOf sp.sig.ps).map (·.1)))) sp.sig.rs (if sp.sig.rs.length = 1 then 0 else 1) (s.nx + 1) fun e => e.2.1
        let ru := (rr.2 ++ c_mut (q.st s gs) gs sp.sig.ps A.ms fun e => e.2.2) ++ A.ts.map fun r => (r, none)
        if (look q.r ru).isNone then match (match look s.nx ru with | none => some ⟨q.L.k', q.L.m', 0, fun e => q.L.get e.1 (q.R.x e.1)⟩ | some x => x : Option (Root (E × (HL (sp.sig.rs.map (·.1)) × HL ((mutsOf sp.sig.ps).map (·.1)))))) with
          | none => none
          | some Rq => match lens q.R.k q.mr q.p with
            | none => none
            | some L2 => if hk : Rq.k = L2.k' then if L2.k'.isAgg = false ∧ L2.k'.size = 1 ∧ q.mr.isOw = true then match mset q.R.k q.mr q.p.sh Rq.m with
              | none => none
              | some mb => some ⟨_, fun k e => if q.L.ok e (q.R.x e) && L2.ok e (q.x2 e) then sp.den k (A.d e) else none, (HL.dflt _, HL.dflt _), rr.1, (q.r, some ⟨q.R.k, mb, q.R.hv + 1, fun e => L2.put e.1 (q.x2 e.1) (hk ▸ Rq.x e)⟩) :: (s.nx, none) :: ru, ownCount sp.sig.rs + 1⟩
              else none else none
        else none
      else none
def firstP (s : Lst E) (gs : Gs) : List Operand → Option (TP E)
  | [] => none
  | x :: xs => match takeP s gs x with
    | some q => some q
    | none => firstP s gs xs
def c_callP (P : Program) (tab : List (FuncId × Spec)) (s : Lst E) (gs : Gs) (f : FuncId) (xs : List Operand) : Option (OC E) := match firstP s gs xs with
  | none => none
  | some q => tryT f (c_callP1 P s gs f xs q) tab
theorem firstP_spec : ∀ {xs : List Operand} {q : TP E}, firstP s gs xs = some q → ∃ x ∈ xs, takeP s gs x = some q
  | [], q, h => by cases h
  | x :: xs, q, h => by
    unfold firstP at h
    split at h
    · rename_i q' hq
      obtain rfl := Option.some.inj h
      exact ⟨x, List.mem_cons_self .., hq⟩
    · obtain ⟨y, h1, h2⟩ := firstP_spec h
      exact ⟨y, List.mem_cons_of_mem _ h1, h2⟩
theorem takeP_spec {x : Operand} {q : TP E} (h : takeP s gs x = some q) : x = .tmp q.t ∧ (s.at gs (q.t, 0) = some (.sub q.r q.R.hv q.p0) ∧ (q.p = q.p0 ∨ q.p = q.p0 ++ [.sm] ∧ ∃ L0, lens q.R.k q.R.m q.p0 = some L0 ∧ ∃ b k, L0.k' = .opt b k)) ∧ s.root gs q.r = some q.R ∧ q.R.m.isOw = true ∧ lens q.R.k q.R.m q.p = some q.L ∧ (q.L.k'.isAgg = false ∧ q.L.k'.size = 1) ∧ mset q.R.k q.R.m q.p.sh .ho = some q.mr := by
  unfold takeP at h
  split at h <;> try (cases h; done)
  rename_i t
  split at h <;> try (cases h; done)
  rename_i r hv p hx
  split at h <;> try (cases h; done)
  rename_i R hR
  split at h <;> try (cases h; done)
  rename_i hc
  split at h <;> try (cases h; done)
  rename_i L hL
  split at h <;> try (cases h; done)
  rename_i hk
  split at h <;> try (cases h; done)
  rename_i mr hms
  obtain ⟨rfl, how⟩ := hc
  split at h
  · rename_i b k hk0
    split at h <;> try (cases h; done)
    rename_i L' mr' hL' hms'
    split at h <;> try (cases h; done)
    rename_i hk'
    obtain rfl := Option.some.inj h
    exact ⟨rfl, ⟨hx, .inr ⟨rfl, L, hL, b, k, hk0⟩⟩, hR, how, hL', hk', hms'⟩
  · obtain rfl := Option.some.inj h
    exact ⟨rfl, ⟨hx, .inl rfl⟩, hR, how, hL, hk, hms⟩
/-- A part that may be nil, and what it is when it is not. -/
theorem Pre.subO {cx : Cx} {g : G} {a : Act} {w : World} {V : Nat → Value} {Fp : Nat → List Nat} (h : Pre cx g a w V Fp) {r : Nat} {R : GRoot} {E : Type} (e : E) {p : Path E} {L : Lens E R.k} {b : Bool} {k : Kt} (hr : g.rt r = some (some R)) (hL : lens R.k R.m p = some L) (hk : L.k' = .opt b k) (hok : L.ok e R.x = true) {v : Value}
    (hx : ESat cx g.rt V Fp w (.sub r R.hv (p.at e)) v) : ESat cx g.rt V Fp w (.sub r R.hv (Path.at (p ++ [.sm]) e)) v := by
  obtain ⟨R0, q1, q2⟩ := hx
  rw [hr] at q1
  obtain rfl := Option.some.inj q1
  refine ⟨_, hr, fun R' hR' => ?_⟩
  obtain rfl := Option.some.inj hR'
  obtain ⟨q3, q4⟩ := q2 R rfl
  refine ⟨q3, fun hc hg => ?_⟩
  obtain ⟨b', o', e0, e1, e2⟩ := q4 hc (gok_lens' e hL hok)
  obtain ⟨Fo', c', z3, z4, z5⟩ := h.comp hr e hL hok
  refine ⟨b', o', e0, ?_, e2⟩
  rw [Path.at_append, z4, e1, hk]
  show adr w (.opt b k) (some (b', o')) c' [.sm] = some (b', o')
  simp only [adr]

theorem lens_pre {k : Kt} {m : Mk} {p r : Path E} {L : Lens E k} {L' : Lens E k} (h : lens k m p = some L) (h' : lens k m (p ++ r) = some L') : ∀ e x, L'.ok e x = true → L.ok e x = true := by
  have key : ∀ (p : Path E) (k : Kt) (m : Mk) (L L' : Lens E k), LensIs k m p L → lens k m (p ++ r) = some L' → ∀ e x, L'.ok e x = true → L.ok e x = true := by
    intro p k m L L' hL
    induction hL with
    | nil => intro _ _ _ _; rfl
    | l hL ih =>
      intro h' e x hx
      simp only [List.cons_append, lens] at h'
      split at h' <;> try (cases h'; done)
      rename_i L0 hL0
      obtain rfl := Option.some.inj h'
      exact ih _ hL0 e _ hx
    | r hL ih =>
      intro h' e x hx
      simp only [List.cons_append, lens] at h'
      split at h' <;> try (cases h'; done)
      rename_i L0 hL0
      obtain rfl := Option.some.inj h'
      exact ih _ hL0 e _ hx
    | arr hL ih =>
      intro h' e x hx
      simp only [List.cons_append, lens] at h'
      split at h' <;> try (cases h'; done)
      rename_i L0 hL0
      obtain rfl := Option.some.inj h'
      rw [Bool.and_eq_true] at hx ⊢
      exact ⟨hx.1, ih _ hL0 e _ hx.2⟩
    | sl hL ih =>
      intro h' e x hx
      simp only [List.cons_append, lens] at h'
      split at h' <;> try (cases h'; done)
      rename_i L0 hL0
      obtain rfl := Option.some.inj h'
      rw [Bool.and_eq_true] at hx ⊢
      exact ⟨hx.1, ih _ hL0 e _ hx.2⟩
    | ad hL ih =>
      intro h' e x hx
      simp only [List.cons_append, lens] at h'
      split at h' <;> try (cases h'; done)
      rename_i L0 hL0
      obtain rfl := Option.some.inj h'
      exact ih _ hL0 e _ hx
    | win hL ih =>
      intro h' e x hx
      simp only [List.cons_append, lens] at h'
      split at h' <;> try (cases h'; done)
      rename_i L0 hL0
      obtain rfl := Option.some.inj h'
      rw [Bool.and_eq_true] at hx ⊢
      rw [Bool.and_eq_true] at hx ⊢
      exact ⟨hx.1, hx.2.1, ih _ hL0 e _ hx.2.2⟩
    | opt hL ih =>
      intro h' e x hx
      simp only [List.cons_append, lens] at h'
      split at h' <;> try (cases h'; done)
      rename_i L0 hL0
      obtain rfl := Option.some.inj h'
      rw [Bool.and_eq_true] at hx ⊢
      exact ⟨hx.1, ih _ hL0 e _ hx.2⟩
  exact key p k m L L' (lens_is _ _ _ _ h) h'

/-- The version that an entry knows of a root. -/
def GEnt.hvAt (r : Nat) : GEnt → Option Nat
  | .loc q hv _ => if q = r then some hv else none
  | .sub q hv _ => if q = r then some hv else none
  | .view q hv _ _ => if q = r then some hv else none
  | _ => none
theorem ESat.hv_le {cx : Cx} {rt : Nat → Option GR} {V : Nat → Value} {Fp : Nat → List Nat} {w : World} {r : Nat} {R : GRoot} (hr : rt r = some (some R)) {ent : GEnt} {v : Value} (h : ESat cx rt V Fp w ent v) : ∀ hv, ent.hvAt r = some hv → hv ≤ R.hv := by
  intro hv hh
  cases ent <;> simp only [GEnt.hvAt] at hh <;> try (cases hh; done)
  all_goals
    split at hh <;> try (cases hh; done)
    rename_i hq
    obtain rfl := Option.some.inj hh
    subst hq
    obtain ⟨R0, h1, h2⟩ := h
    rw [hr] at h1
    obtain rfl := Option.some.inj h1
    exact (h2 R rfl).1
/-- A version's number is but a name. -/
theorem ESat.relabel {cx : Cx} {rt : Nat → Option GR} {V : Nat → Value} {Fp : Nat → List Nat} {w : World} {r : Nat} {R : GRoot} {h1 : Nat} (hr : rt r = some (some R)) {ent : GEnt} {v : Value} (hlt : ∀ hv, ent.hvAt r = some hv → hv < h1) (h : ESat cx rt V Fp w ent v) :
    ESat cx (upd rt r (some (some ⟨R.k, R.m, h1, R.x⟩))) V Fp w ent v := by
  cases ent with
  | val k x => exact h
  | place k x => exact h
  | cst v => exact h
  | atl x => exact h
  | own q =>
    obtain ⟨R0, h2, h3⟩ := h
    by_cases hq : q = r
    · subst hq
      rw [hr] at h2
      obtain rfl := Option.some.inj h2
      exact ⟨_, upd_same _ _ _, fun _ => h3 (by simp)⟩
    · exact ⟨R0, by rw [upd_ne _ _ hq]; exact h2, h3⟩
  | loc q hv p =>
    obtain ⟨R0, h2, h3⟩ := h
    by_cases hq : q = r
    · subst hq
      have hl := hlt hv (if_pos rfl)
      rw [hr] at h2
      obtain rfl := Option.some.inj h2
      refine ⟨_, upd_same _ _ _, fun R' hR' => ?_⟩
      obtain rfl := Option.some.inj hR'
      refine ⟨Nat.le_of_lt hl, fun hc => ?_⟩
      rcases hc with hc | ⟨hc, _⟩
      · exact (h3 R rfl).2 (.inl hc)
      · have hc : h1 = hv := hc
        omega
    · exact ⟨R0, by rw [upd_ne _ _ hq]; exact h2, h3⟩
  | sub q hv p =>
    obtain ⟨R0, h2, h3⟩ := h
    by_cases hq : q = r
    · subst hq
      have hl := hlt hv (if_pos rfl)
      refine ⟨_, upd_same _ _ _, fun R' hR' => ?_⟩
      obtain rfl := Option.some.inj hR'
      refine ⟨Nat.le_of_lt hl, fun hc => ?_⟩
      have hc : h1 = hv := hc
      omega
    · exact ⟨R0, by rw [upd_ne _ _ hq]; exact h2, h3⟩
  | view q hv k p =>
    obtain ⟨R0, h2, h3⟩ := h
    by_cases hq : q = r
    · subst hq
      have hl := hlt hv (if_pos rfl)
      refine ⟨_, upd_same _ _ _, fun R' hR' => ?_⟩
      obtain rfl := Option.some.inj hR'
      refine ⟨Nat.le_of_lt hl, fun hc => ?_⟩
      have hc : h1 = hv := hc
      omega
    · exact ⟨R0, by rw [upd_ne _ _ hq]; exact h2, h3⟩
theorem Mem.relabel {cx : Cx} {rt : Nat → Option GR} {V : Nat → Value} {Fp : Nat → List Nat} {w : World} (h : Mem cx rt V Fp w) {r : Nat} {R : GRoot} {h1 : Nat} (hr : rt r = some (some R)) : Mem cx (upd rt r (some (some ⟨R.k, R.m, h1, R.x⟩))) V Fp w := by
  refine ⟨h.os, h.tape, h.output, h.size, h.frame, fun q R' hq => ?_, fun q hq => ?_, h.nodup, h.disj, h.own⟩
  · by_cases hqr : q = r
    · subst hqr
      rw [upd_same] at hq
      obtain rfl := Option.some.inj (Option.some.inj hq)
      exact h.roots q R hr
    · rw [upd_ne _ _ hqr] at hq
      exact h.roots q R' hq
  · by_cases hqr : q = r
    · subst hqr
      rw [upd_same] at hq
      exact absurd rfl (hq _)
    · rw [upd_ne _ _ hqr] at hq
      exact h.none q hq
theorem c_res_hv {E' : Type} {r : Nat} {e : E'} : ∀ (rs : List (Kt × RM)) (j nid : Nat) (pr : E' → HL (rs.map (·.1))) (i : Nat) (ent : GEnt), evs (c_res rs j nid pr).1 e i = some ent → ent.hvAt r = none
  | [], j, nid, pr, i, ent, h => by cases h
  | (k, .val) :: rs, j, nid, pr, i, ent, h => by
    unfold evs at h
    simp only [c_res, look] at h
    split at h
    · obtain rfl := Option.some.inj h; rfl
    · exact c_res_hv rs _ _ (fun e => (pr e).2) i ent h
  | (k, .own m) :: rs, j, nid, pr, i, ent, h => by
    unfold evs at h
    simp only [c_res, look] at h
    split at h
    · obtain rfl := Option.some.inj h; rfl
    · exact c_res_hv rs _ _ (fun e => (pr e).2) i ent h

theorem snd_callP1 {Gl : World → Prop} {f : FuncId} {xs : List Operand} {q : TP E} {sp : Spec} (hfn : FnOk P Gl f sp) {x0 : Operand} (hx0 : x0 ∈ xs) (hq : takeP s gs x0 = some q) (hm : ∀ y ∈ xs, y ∈ o.op.operands) {r : OC E} (h : c_callP1 P s gs f xs q sp = some r)
    (hrun : ∀ (a : Act) (w : World), callOk P f = true → (execOp a.eval o).run P w = .ok (.enter f (xs.map a.eval).toArray) w) : SndC P Gl o s gs r := by
  unfold c_callP1 at h
  split at h <;> try (cases h; done)
  rename_i A hA0
  split at h <;> try (cases h; done)
  rename_i hc
  simp only [Bool.and_eq_true, Bool.not_eq_true'] at hc
  obtain ⟨⟨⟨⟨⟨hc1, hc2⟩, hc3⟩, hc5⟩, hc4⟩, hc6⟩ := hc
  generalize hj : (if sp.sig.rs.length = 1 then 0 else 1) = j at h
  dsimp only at h
  split at h <;> try (cases h; done)
  rename_i hlk
  split at h <;> try (cases h; done)
  rename_i Rq hRq
  split at h <;> try (cases h; done)
  rename_i L2 hL2
  split at h <;> try (cases h; done)
  rename_i hk
  split at h <;> try (cases h; done)
  rename_i hk2
  split at h <;> try (cases h; done)
  rename_i mb hmb
  obtain rfl := Option.some.inj h
  obtain ⟨t1, ⟨t2, t2'⟩, t3, t4, t5, t6, t7⟩ := takeP_spec hq
  intro cx k e x g a w V Fp Q hGl hon hden hA hd hp
  have hden : (if q.L.ok e (q.R.x e) && L2.ok e (q.x2 e) then sp.den k (A.d e) else none) = some x := hden
  split at hden <;> try (cases hden; done)
  rename_i hok
  rw [Bool.and_eq_true] at hok
  obtain ⟨hok1, hok2⟩ := hok
  have ht : q.t ∈ opTmps o := mem_opTmps (hm x0 hx0) t1
  have hen := Lst.at_gr t2 hon
  rw [← hA.tm q.t ht 0] at hen
  have hrs : q.r ∈ s.rootsOf (opTmps o) := Lst.at_roots t2 ht _ (List.mem_singleton_self _)
  have hrt : g.rt q.r = some (some (q.R.ev e)) := (hA.rt q.r hrs).trans (Lst.root_gr hon t3)
  have hnew : g.rt s.nx = none := by have := hA.new 0 (by simp); simpa using this
  have hne : q.r ≠ s.nx := fun h => by rw [h, hnew] at hrt; cases hrt
  have hconv : ∀ v, ESat cx g.rt V Fp w (Ent.ev e (.sub q.r q.R.hv q.p0)) v → ESat cx g.rt V Fp w (.sub q.r (q.R.ev e).hv (q.p.at e)) v := by
    intro v hv
    rcases t2' with h | ⟨h, L0, h1, b, k, h2⟩
    · rw [h]; exact hv
    · rw [h]
      refine hp.subO (R := q.R.ev e) (L := L0) e hrt h1 h2 ?_ hv
      have h3 := lens_pre h1 (h ▸ t5)
      exact h3 e _ hok1
  obtain ⟨V1, Fp1, v, b, o', hp', w1, w2, w3, w4, w5⟩ := hp.takeOutS (R := q.R.ev e) e hen hconv hrt (how_of t4) t5 hok1 t6 t7 hnew
  -- the state ahead of the call
  have hgv : ∀ t', (q.st s gs).gval t' = s.gval t' := by
    intro t'
    unfold Lst.gval TP.st
    simp only [look]
    by_cases htt : t' = q.t
    · subst htt
      rw [if_pos rfl]
      have hx := t2
      unfold Lst.at at hx
      split at hx <;> try (cases hx; done)
      rename_i sl hsl
      split at hx <;> try (cases hx; done)
      rw [hsl]
      obtain ⟨sg, se⟩ := sl
      have hx : se = _ := Option.some.inj hx
      subst hx
      rfl
    · rw [if_neg (fun h => htt (Prod.mk.inj h).1)]
  have hon' : ∀ gs' : Gs, (q.st s gs).on gs' e = s.on gs' e := by
    intro gs'
    unfold Lst.on
    congr 1
    funext z
    rw [hgv]
  have hA' : Agree ⟨fun z => if z = (q.t, 0) then some (.own s.nx) else g.tm z, upd (upd g.rt q.r (some (some ⟨q.R.k, q.mr, q.R.hv + 1, q.x2 e⟩))) s.nx (some (some ⟨q.L.k', q.L.m', 0, q.L.get e (q.R.x e)⟩))⟩ (q.st s gs) e (opTmps o) (ownCount sp.sig.rs) := by
    refine ⟨fun t' ht' i => ?_, fun z hz => ?_, fun i hi => ?_⟩
    · unfold Lst.gr
      simp only [hon']
      simp only [TP.st, look]
      by_cases hq : (t', i) = (q.t, 0)
      · rw [if_pos hq, if_pos hq]
        simp only [hon, if_true]
        rfl
      · rw [if_neg hq, if_neg hq]
        have := hA.tm t' ht' i
        unfold Lst.gr at this
        exact this
    · unfold Lst.gr
      simp only [hon']
      simp only [TP.st, look]
      by_cases hq1 : z = s.nx
      · subst hq1
        rw [upd_same, if_pos rfl]
        simp only [hon, if_true]
        rfl
      · rw [upd_ne _ _ hq1, if_neg hq1]
        by_cases hq2 : z = q.r
        · subst hq2
          rw [upd_same, if_pos rfl]
          simp only [hon, if_true]
          rfl
        · rw [upd_ne _ _ hq2, if_neg hq2]
          have hq' : z ∈ s.rootsOf (opTmps o) := by
            unfold Lst.rootsOf at hz ⊢
            unfold TP.st at hz
            rw [List.flatMap_cons] at hz
            rcases List.mem_append.1 hz with hz | hz
            · split at hz
              · simp only [Ent.roots, List.mem_singleton] at hz
                exact absurd hz hq1
              · cases hz
            · exact hz
          have := hA.rt z hq'
          unfold Lst.gr at this
          exact this
    · have h0 := hA.new (i + 1) (by show i + 1 < ownCount sp.sig.rs + 1; omega)
      have e1 : s.nx + 1 + i = s.nx + (i + 1) := by omega
      show upd _ s.nx _ (s.nx + 1 + i) = none
      rw [upd_ne _ _ (by omega), upd_ne]
      · rw [e1]; exact h0
      · intro hc
        rw [e1] at hc
        rw [hc, hrt] at h0
        cases h0
  obtain ⟨hargs, hmuti⟩ := c_args_spec hp' hA' ((hon' gs).trans hon) A.bs sp.sig.ps xs A hA0 hm (fun r h => h)
  have hroots : ∀ r ∈ A.ms, ∃ R, (q.st s gs).root gs r = some R ∧ (⟨fun z => if z = (q.t, 0) then some (.own s.nx) else g.tm z, upd (upd g.rt q.r (some (some ⟨q.R.k, q.mr, q.R.hv + 1, q.x2 e⟩))) s.nx (some (some ⟨q.L.k', q.L.m', 0, q.L.get e (q.R.x e)⟩))⟩ : G).rt r = some (some (R.ev e)) := by
    intro r hr
    obtain ⟨y, R, h1, h2, h3⟩ := c_args_ms hA0 r hr
    exact ⟨R, h3, (Lst.op_root hA' (hm y h1) h2 (List.mem_singleton_self _)).trans (Lst.root_gr ((hon' gs).trans hon) h3)⟩
  have hcall := call_coreS (Q := Q) (e := e) (s := q.st s gs) (gs := gs) hfn hGl hden hp' hd hargs hmuti hc2 hc3 hc5 hc4 hA'.new hroots (hrun a w hc1)
  refine Oper.wp_mono (fun a' w' hg => ?_) hcall
  obtain ⟨V2, Fp2, hp2, hkeep⟩ := hg
  obtain ⟨Lk, Lm, Lget, Lput, Lok⟩ := L2
  have hk : Rq.k = Lk := hk
  subst hk
  generalize hru : (((c_res (E' := E × (HL (sp.sig.rs.map (·.1)) × HL ((mutsOf sp.sig.ps).map (·.1)))) sp.sig.rs j (s.nx + 1) fun e => e.2.1).2 ++ c_mut (q.st s gs) gs sp.sig.ps A.ms fun e => e.2.2) ++ A.ts.map fun r => (r, none)) = ru at hlk hRq
  have hp2 : Pre cx ((⟨fun z => if z = (q.t, 0) then some (.own s.nx) else g.tm z, upd (upd g.rt q.r (some (some ⟨q.R.k, q.mr, q.R.hv + 1, q.x2 e⟩))) s.nx (some (some ⟨q.L.k', q.L.m', 0, q.L.get e (q.R.x e)⟩))⟩ : G).put o.dst (evs (c_res (E' := E × (HL (sp.sig.rs.map (·.1)) × HL ((mutsOf sp.sig.ps).map (·.1)))) sp.sig.rs j (s.nx + 1) fun e => e.2.1).1 (e, x)) (rtU (upd (upd g.rt q.r (some (some ⟨q.R.k, q.mr, q.R.hv + 1, q.x2 e⟩))) s.nx (some (some ⟨q.L.k', q.L.m', 0, q.L.get e (q.R.x e)⟩))) ru (e, x))) a' w' V2 Fp2 := by
    rw [← hru, ← hj]; exact hp2
  have hlr : look q.r ru = none := by
    cases hl : look q.r ru with
    | none => rfl
    | some y => rw [hl] at hlk; cases hlk
  have hr2 : rtU (upd (upd g.rt q.r (some (some ⟨q.R.k, q.mr, q.R.hv + 1, q.x2 e⟩))) s.nx (some (some ⟨q.L.k', q.L.m', 0, q.L.get e (q.R.x e)⟩))) ru (e, x) q.r = some (some ⟨q.R.k, q.mr, q.R.hv + 1, q.x2 e⟩) := by
    simp only [rtU, hlr]
    rw [upd_ne _ _ hne, upd_same]
  have hq2 : rtU (upd (upd g.rt q.r (some (some ⟨q.R.k, q.mr, q.R.hv + 1, q.x2 e⟩))) s.nx (some (some ⟨q.L.k', q.L.m', 0, q.L.get e (q.R.x e)⟩))) ru (e, x) s.nx = some (some (Rq.ev (e, x))) := by
    simp only [rtU]
    cases hl : look s.nx ru with
    | none =>
      rw [hl] at hRq
      obtain rfl := Option.some.inj hRq
      simp only []
      rw [upd_same]
      rfl
    | some y =>
      rw [hl] at hRq
      have hRq : y = some Rq := hRq
      rw [hRq]
      rfl
  obtain ⟨k1, k2⟩ := hkeep q.r ⟨q.R.k, q.mr, q.R.hv + 1, q.x2 e⟩ (by show upd _ _ _ _ = _; rw [upd_ne _ _ hne, upd_same]; rfl)
  obtain ⟨k3, _⟩ := hkeep s.nx ⟨q.L.k', q.L.m', 0, q.L.get e (q.R.x e)⟩ (upd_same _ _ _)
  have hnm : q.r ∉ A.ms ++ A.ts := fun h => by
    have : (A.ms ++ A.ts).contains q.r = true := by simpa using h
    rw [this] at hc6; cases hc6
  obtain ⟨k4, k5⟩ := k2 hnm
  have hgok : gok q.R.k q.mr (q.x2 e) (q.p.at e) = true := gok_lens' (L := ⟨_, Lm, Lget, Lput, Lok⟩) e hL2 hok2
  obtain ⟨cs1, s1, s2⟩ := hp'.mem.roots q.r ⟨q.R.k, q.mr, q.R.hv + 1, q.x2 e⟩ (by show upd _ _ _ _ = _; rw [upd_ne _ _ hne, upd_same]; rfl)
  have w4 : adr w q.R.k none (hdr q.R.k (V q.r)) (q.p.at e) = some (b, o') := w4
  have hadr : adr w' q.R.k none (hdr q.R.k (V2 q.r)) (q.p.at e) = some (b, o') := by
    rw [k1, ← w4, w1]
    have hs1 : hdr q.R.k (V q.r) = cs1 := by rw [← w1]; exact shows_hdr s1
    rw [hs1]
    exact adr_keep _ _ _ _ _ _ _ hgok s2 k5
  have hcell : w'.cell? ⟨b, o', none⟩ = some (V2 s.nx) := by
    rw [k3, w2, ← w5]
    unfold World.cell?
    rw [k5 b w3]
  obtain ⟨Fp3, hp3⟩ := hp2.putBack (R := ⟨q.R.k, q.mr, q.R.hv + 1, q.x2 e⟩) (L := ⟨_, Lm, Lget, Lput, Lok⟩) e hr2 (how_of hk2.2.2) hL2 hok2 (r' := s.nx) (m' := Rq.m) (hv' := Rq.hv) (y := Rq.x (e, x)) hq2 hne ⟨hk2.1, hk2.2.1⟩ hmb hadr hcell
  refine ⟨hp3.defers, hp3.size, V2, Fp3, ?_⟩
  have hrr : upd (upd (rtU (upd (upd g.rt q.r (some (some ⟨q.R.k, q.mr, q.R.hv + 1, q.x2 e⟩))) s.nx (some (some ⟨q.L.k', q.L.m', 0, q.L.get e (q.R.x e)⟩))) ru (e, x)) q.r (some (some ⟨q.R.k, mb, q.R.hv + 1 + 1, Lput e (q.x2 e) (Rq.x (e, x))⟩))) s.nx (some none) =
      rtU g.rt ((q.r, some ⟨q.R.k, mb, q.R.hv + 2, fun e => Lput e.1 (q.x2 e.1) (Rq.x e)⟩) :: (s.nx, none) :: ru) (e, x) := by
    rw [rtU_cons, rtU_cons]
    funext z
    by_cases h1 : z = s.nx
    · subst h1
      rw [upd_same, upd_ne _ _ (Ne.symm hne), upd_same]
      rfl
    · rw [upd_ne _ _ h1]
      by_cases h2 : z = q.r
      · subst h2
        rw [upd_same, upd_same]
        rfl
      · rw [upd_ne _ _ h2, upd_ne _ _ h2, upd_ne _ _ h1]
        simp only [rtU]
        cases look z ru with
        | some y => rfl
        | none =>
          simp only []
          rw [upd_ne _ _ h1, upd_ne _ _ h2]
  have hm3 := hp3.mem
  have he3 := hp3.ents
  simp only [G.put] at hm3 he3
  rw [hrr] at hm3 he3
  have hr3 : rtU g.rt ((q.r, some ⟨q.R.k, mb, q.R.hv + 2, fun e => Lput e.1 (q.x2 e.1) (Rq.x e)⟩) :: (s.nx, none) :: ru) (e, x) q.r = some (some ⟨q.R.k, mb, q.R.hv + 2, Lput e (q.x2 e) (Rq.x (e, x))⟩) := by rw [rtU_cons, upd_same]; rfl
  have hrl : rtU g.rt ((q.r, some ⟨q.R.k, mb, q.R.hv + 1, fun e => Lput e.1 (q.x2 e.1) (Rq.x e)⟩) :: (s.nx, none) :: ru) (e, x) = upd (rtU g.rt ((q.r, some ⟨q.R.k, mb, q.R.hv + 2, fun e => Lput e.1 (q.x2 e.1) (Rq.x e)⟩) :: (s.nx, none) :: ru) (e, x)) q.r (some (some ⟨q.R.k, mb, q.R.hv + 1, Lput e (q.x2 e) (Rq.x (e, x))⟩)) := by
    rw [rtU_cons, rtU_cons (q := some ⟨q.R.k, mb, q.R.hv + 2, fun e => Lput e.1 (q.x2 e.1) (Rq.x e)⟩)]
    funext z
    by_cases hz : z = q.r
    · subst hz; rw [upd_same, upd_same]; rfl
    · rw [upd_ne _ _ hz, upd_ne _ _ hz, upd_ne _ _ hz]
  refine ⟨by rw [hrl]; exact hm3.relabel hr3, fun t' i ent he => ?_⟩
  simp only [G.put] at he
  rw [hrl]
  by_cases hdt : some t' = o.dst
  · rw [if_pos hdt] at he
    obtain ⟨v', u', i1, i2, i3⟩ := he3 t' i ent (by rw [if_pos hdt]; exact he)
    exact ⟨v', u', i1, i2, i3.relabel hr3 fun hv hh => by rw [c_res_hv _ _ _ _ _ _ he] at hh; cases hh⟩
  · rw [if_neg hdt] at he
    obtain ⟨_, u0, _, _, j3⟩ := hp.ents t' i ent he
    have hlt : ∀ hv, ent.hvAt q.r = some hv → hv < q.R.hv + 1 := fun hv hh => Nat.lt_succ_of_le (j3.hv_le hrt hv hh)
    by_cases hz : (t', i) = (q.t, 0)
    · obtain ⟨rfl, rfl⟩ := Prod.mk.inj hz
      obtain ⟨v', u', i1, i2, i3⟩ := he3 q.t 0 (.own s.nx) (by rw [if_neg hdt, if_pos rfl])
      rw [hen] at he
      obtain rfl := Option.some.inj he
      refine ⟨v', u', i1, i2, some ⟨q.R.k, mb, q.R.hv + 1, Lput e (q.x2 e) (Rq.x (e, x))⟩, upd_same _ _ _, fun R' hR' => ?_⟩
      obtain rfl := Option.some.inj hR'
      exact ⟨by show q.R.hv ≤ q.R.hv + 1; omega, fun hc => absurd hc (by show ¬ (q.R.hv + 1 = q.R.hv); omega)⟩
    · obtain ⟨v', u', i1, i2, i3⟩ := he3 t' i ent (by rw [if_neg hdt, if_neg hz]; exact he)
      exact ⟨v', u', i1, i2, i3.relabel hr3 hlt⟩
theorem snd_callP {Gl : World → Prop} {tab : List (FuncId × Spec)} (htab : ∀ f sp, (f, sp) ∈ tab → FnOk P Gl f sp) {f : FuncId} {xs : List Operand} {ta : Array TypeId} {r : OC E} (ho : o.op = .call { callee := .value (.func f), args := xs.toArray, argTypes := ta }) (h : c_callP P tab s gs f xs = some r) : SndC P Gl o s gs r := by
  unfold c_callP at h
  split at h <;> try (cases h; done)
  rename_i q hq
  obtain ⟨x0, h1, h2⟩ := firstP_spec hq
  obtain ⟨sp, hsp, h⟩ := tryT_spec h
  refine snd_callP1 (htab f sp hsp) h1 h2 (by intro y hy; simp [ho, Op.operands, Call.operands, hy]) h fun a w hc1 => ?_
  unfold callOk at hc1
  split at hc1 <;> try (cases hc1; done)
  rename_i fn hfn
  simp only [Bool.and_eq_true, Bool.not_eq_true'] at hc1
  have n1 : fn.name ≠ "runtime.NumGoroutine" := by simpa using hc1.1
  have n2 : fn.body ≠ none := by intro h0; rw [h0] at hc1; cases hc1.2
  simp [execOp, ho, resolve, Act.eval, Deferred.ofValue, invoke, callFunc, hfn, n1, n2]
end
end Go.Lift

namespace Go.Lift
set_option linter.unusedVariables false
set_option linter.unusedSimpArgs false

/-! ### a call that is handed a pointer that may be nil, and is not -/
section
variable {P : Program} {cx : Cx} {g : G} {a : Act} {w : World} {V : Nat → Value} {Fp : Nat → List Nat}
theorem shal_opt {b : Bool} {k : Kt} (p : List (St Nat)) : shal (.opt b k) p = false := by
  cases p with
  | nil => rfl
  | cons s p => cases s <;> rfl
theorem Pre.takeOutN (h : Pre cx g a w V Fp) {t : Tmp} {r r' : Nat} {T : TypeId} {k : Kt} {m : Mk} {hv : Nat} {x : Option k.T} {y : k.T} (hx : g.tm (t, 0) = some (.own r)) (hr : g.rt r = some (some ⟨.opt true (.ptr T k), m, hv, x⟩)) (hy : x = some y) (hr' : g.rt r' = none) :
    ∃ V' Fp', Pre cx ⟨fun q => if q = (t, 0) then some (.own r') else g.tm q, upd (upd g.rt r (some (some ⟨.opt true (.ptr T k), .ho, hv + 1, some y⟩))) r' (some (some ⟨.ptr T k, m, 0, y⟩))⟩ a w V' Fp' ∧ V' r = V r ∧ V' r' = V r := by
  subst hy
  obtain ⟨v, u, hv1, hv2, R0, q1, q2⟩ := h.ents t 0 _ hx
  obtain rfl := Option.some.inj hv2
  rw [hr] at q1
  obtain rfl := Option.some.inj q1
  have hvv : v = V r := q2 (by simp)
  obtain ⟨csr, hsr, hzr⟩ := h.mem.roots r _ hr
  have hsr : csr = [V r] := (shows_na rfl).1 hsr
  subst hsr
  have hzy : Rz w (cx.Sh Fp) (.ptr T k) m (Fp r) y [V r] := by
    rcases hzr with h1 | ⟨y', h1, h2⟩
    · cases h1.1
    · obtain rfl := Option.some.inj h1; exact h2
  have hFr : Fp r' = [] := h.mem.none r' (by rw [hr']; simp)
  have hne : r ≠ r' := fun e => by rw [e, hr'] at hr; cases hr
  have hst : Step cx g.rt (upd (upd g.rt r (some (some ⟨.opt true (.ptr T k), .ho, hv + 1, some y⟩))) r' (some (some ⟨.ptr T k, m, 0, y⟩))) V (upd V r' (V r)) Fp (upd (upd Fp r []) r' (Fp r)) w w (fun s => s = r ∨ s = r') := by
    refine ⟨rfl, rfl, rfl, Nat.le_refl _, fun u _ _ => rfl, fun s hs => ?_, fun s hs u hu => ?_, fun s hs => ?_, fun s s' hs hs' hne' u hu hu' => ?_, fun s hs hn => ?_, fun s R' hs hR hK => ?_, fun s hs => ?_⟩
    · have h1 : s ≠ r := fun e => hs (.inl e)
      have h2 : s ≠ r' := fun e => hs (.inr e)
      exact ⟨by rw [upd_ne _ _ h2, upd_ne _ _ h1], upd_ne _ _ h2, by rw [upd_ne _ _ h2, upd_ne _ _ h1]⟩
    · rcases hs with rfl | rfl
      · rw [upd_ne _ _ hne, upd_same] at hu; cases hu
      · rw [upd_same] at hu
        exact .inr ⟨r, .inl rfl, hu⟩
    · rcases hs with rfl | rfl
      · rw [upd_ne _ _ hne, upd_same]; exact List.nodup_nil
      · rw [upd_same]; exact h.mem.nodup r
    · rcases hs with rfl | rfl
      · rw [upd_ne _ _ hne, upd_same] at hu; cases hu
      · rcases hs' with rfl | rfl
        · rw [upd_ne _ _ hne, upd_same] at hu'; cases hu'
        · exact hne' rfl
    · rcases hs with rfl | rfl
      · rw [upd_ne _ _ hne, upd_same] at hn; exact absurd rfl (hn _)
      · rw [upd_same] at hn; exact absurd rfl (hn _)
    · rcases hs with rfl | rfl
      · rw [upd_ne _ _ hne, upd_same] at hR
        obtain rfl := Option.some.inj (Option.some.inj hR)
        refine ⟨[V s], by rw [upd_ne _ _ hne]; exact (shows_na rfl).2 rfl, ?_⟩
        rw [upd_ne _ _ hne, upd_same]
        exact .inr ⟨y, rfl, Rz_ho _ _ _ _ _ (Rz_keep hK _ _ _ _ _ (fun _ _ => rfl) hzy)⟩
      · rw [upd_same] at hR
        obtain rfl := Option.some.inj (Option.some.inj hR)
        exact ⟨[V r], by rw [upd_same]; exact (shows_na rfl).2 rfl, by rw [upd_same]; exact Rz_keep hK _ _ _ _ _ (fun _ _ => rfl) hzy⟩
    · rcases hs with rfl | rfl
      · rw [hr, upd_ne _ _ hne, upd_same]
        exact .inr ⟨_, _, _, rfl, upd_ne _ _ hne, .inr ⟨Nat.lt_succ_self _, (fun p hp => by have hp : shal (.opt true (.ptr T k)) p = true := hp; rw [shal_opt] at hp; cases hp), fun p' hp' => rfl⟩⟩
      · rw [hr']; trivial
  refine ⟨_, _, ⟨h.defers, h.size, hst.mem h.mem, fun t' i ent he => ?_⟩, upd_ne _ _ hne, upd_same _ _ _⟩
  by_cases hq : (t', i) = (t, 0)
  · simp only [hq, if_true] at he
    obtain rfl := Option.some.inj he
    obtain ⟨rfl, rfl⟩ := Prod.mk.inj hq
    exact ⟨v, v, hv1, rfl, _, upd_same _ _ _, fun _ => hvv.trans (upd_same _ _ _).symm⟩
  · simp only [hq, if_false] at he
    obtain ⟨v', u', h1, h2, h3⟩ := h.ents t' i ent he
    exact ⟨v', u', h1, h2, hst.esat h.mem h3⟩
theorem Pre.putBackN (h : Pre cx g a w V Fp) {r r' : Nat} {T : TypeId} {k : Kt} {m' : Mk} {hv hv' : Nat} {x : Option k.T} {y : k.T} (hr : g.rt r = some (some ⟨.opt true (.ptr T k), .ho, hv, x⟩)) (hr' : g.rt r' = some (some ⟨.ptr T k, m', hv', y⟩)) (hne : r ≠ r') (hV : V r' = V r) :
    ∃ Fp', Pre cx ⟨g.tm, upd (upd g.rt r (some (some ⟨.opt true (.ptr T k), m', hv + 1, some y⟩))) r' (some none)⟩ a w V Fp' := by
  obtain ⟨csr, hsr, hzr⟩ := h.mem.roots r _ hr
  have hsr : csr = [V r] := (shows_na rfl).1 hsr
  subst hsr
  obtain ⟨csy, hsy, hzy⟩ := h.mem.roots r' _ hr'
  have hsy : csy = [V r'] := (shows_na rfl).1 hsy
  subst hsy
  have hst : Step cx g.rt (upd (upd g.rt r (some (some ⟨.opt true (.ptr T k), m', hv + 1, some y⟩))) r' (some none)) V V Fp (upd (upd Fp r (Fp r')) r' []) w w (fun s => s = r ∨ s = r') := by
    refine ⟨rfl, rfl, rfl, Nat.le_refl _, fun u _ _ => rfl, fun s hs => ?_, fun s hs u hu => ?_, fun s hs => ?_, fun s s' hs hs' hne' u hu hu' => ?_, fun s hs hn => ?_, fun s R' hs hR hK => ?_, fun s hs => ?_⟩
    · have h1 : s ≠ r := fun e => hs (.inl e)
      have h2 : s ≠ r' := fun e => hs (.inr e)
      exact ⟨by rw [upd_ne _ _ h2, upd_ne _ _ h1], rfl, by rw [upd_ne _ _ h2, upd_ne _ _ h1]⟩
    · rcases hs with rfl | rfl
      · rw [upd_ne _ _ hne, upd_same] at hu
        exact .inr ⟨r', .inr rfl, hu⟩
      · rw [upd_same] at hu; cases hu
    · rcases hs with rfl | rfl
      · rw [upd_ne _ _ hne, upd_same]; exact h.mem.nodup r'
      · rw [upd_same]; exact List.nodup_nil
    · rcases hs with rfl | rfl
      · rcases hs' with rfl | rfl
        · exact hne' rfl
        · rw [upd_same] at hu'; cases hu'
      · rw [upd_same] at hu; cases hu
    · rcases hs with rfl | rfl
      · rw [upd_ne _ _ hne, upd_same] at hn; exact absurd rfl (hn _)
      · exact upd_same _ _ _
    · rcases hs with rfl | rfl
      · rw [upd_ne _ _ hne, upd_same] at hR
        obtain rfl := Option.some.inj (Option.some.inj hR)
        refine ⟨[V s], (shows_na rfl).2 rfl, ?_⟩
        rw [upd_ne _ _ hne, upd_same, ← hV]
        exact .inr ⟨y, rfl, Rz_keep hK _ _ _ _ _ (fun _ _ => rfl) hzy⟩
      · rw [upd_same] at hR; cases hR
    · rcases hs with rfl | rfl
      · rw [hr, upd_ne _ _ hne, upd_same]
        exact .inr ⟨_, _, _, rfl, rfl, .inr ⟨Nat.lt_succ_self _, (fun p hp => by have hp : shal (.opt true (.ptr T k)) p = true := hp; rw [shal_opt] at hp; cases hp), fun p' hp' => rfl⟩⟩
      · rw [hr', upd_same]; exact .inl rfl
  refine ⟨_, h.defers, h.size, hst.mem h.mem, fun t' i ent he => ?_⟩
  obtain ⟨v', u', h1, h2, h3⟩ := h.ents t' i ent he
  exact ⟨v', u', h1, h2, hst.esat h.mem h3⟩
end

section
variable {E : Type} {P : Program} {o : Oper} {s : Lst E} {gs : Gs}
structure TN (E : Type) where
  t : Tmp
  r : Nat
  T : TypeId
  k : Kt
  m : Mk
  hv : Nat
  x : E → Option k.T
def takeN (s : Lst E) (gs : Gs) : Operand → Option (TN E)
  | .tmp t => match s.at gs (t, 0) with
    | some (.own r) => match s.root gs r with
      | some ⟨.opt true (.ptr T k), .ow m, hv, x⟩ => some ⟨t, r, T, k, .ow m, hv, x⟩
      | _ => none
    | _ => none
  | _ => none
def TN.y (q : TN E) (ε : E) : q.k.T := (q.x ε).getD q.k.dflt
def TN.R (q : TN E) : Root E := ⟨.opt true (.ptr q.T q.k), q.m, q.hv, q.x⟩
def TN.st (q : TN E) (s : Lst E) (gs : Gs) : Lst E :=
  ⟨((q.t, 0), ⟨gs, .own s.nx⟩) :: s.tm, (s.nx, (gs, some ⟨.ptr q.T q.k, q.m, 0, q.y⟩)) :: (q.r, (gs, some ⟨.opt true (.ptr q.T q.k), .ho, q.hv + 1, fun ε => some (q.y ε)⟩)) :: s.rt, s.nx + 1⟩
def c_callN1 (P : Program) (s : Lst E) (gs : Gs) (f : FuncId) (xs : List Operand) (q : TN E) (sp : Spec) : Option (OC E) := match c_args (q.st s gs) gs sp.sig.ps xs with
    | none => none
    | some A => if callOk P f && nodupB A.os && disjB A.os A.bs && A.os.all (fun r => A.ms.contains r || A.ts.contains r) && (A.bs.isEmpty || tightSig sp.sig) && !(A.ms ++ A.ts).contains q.r then
        let rr := c_res (E' := E × (HL (sp.sig.rs.map (·.1)) × HL ((mutsOf sp.sig.ps).map (·.1)))) sp.sig.rs (if sp.sig.rs.length = 1 then 0 else 1) (s.nx + 1) fun e => e.2.1
        let ru := (rr.2 ++ c_mut (q.st s gs) gs sp.sig.ps A.ms fun e => e.2.2) ++ A.ts.map fun r => (r, none)
        if (look q.r ru).isNone then match (match look s.nx ru with | none => some ⟨.ptr q.T q.k, q.m, 0, fun e => q.y e.1⟩ | some x => x : Option (Root (E × (HL (sp.sig.rs.map (·.1)) × HL ((mutsOf sp.sig.ps).map (·.1)))))) with
          | none => none
          | some Rq => if hk : Rq.k = .ptr q.T q.k then some ⟨_, fun k e => if (q.x e).isSome then sp.den k (A.d e) else none, (HL.dflt _, HL.dflt _), rr.1, (q.r, some ⟨.opt true (.ptr q.T q.k), Rq.m, q.hv + 1, fun e => some (hk ▸ Rq.x e)⟩) :: (s.nx, none) :: ru, ownCount sp.sig.rs + 1⟩
              else none
        else none
      else none
def firstN (s : Lst E) (gs : Gs) : List Operand → Option (TN E)
  | [] => none
  | x :: xs => match takeN s gs x with
    | some q => some q
    | none => firstN s gs xs
def c_callN (P : Program) (tab : List (FuncId × Spec)) (s : Lst E) (gs : Gs) (f : FuncId) (xs : List Operand) : Option (OC E) := match firstN s gs xs with
  | none => none
  | some q => tryT f (c_callN1 P s gs f xs q) tab
theorem firstN_spec : ∀ {xs : List Operand} {q : TN E}, firstN s gs xs = some q → ∃ x ∈ xs, takeN s gs x = some q
  | [], q, h => by cases h
  | x :: xs, q, h => by
    unfold firstN at h
    split at h
    · rename_i q' hq
      obtain rfl := Option.some.inj h
      exact ⟨x, List.mem_cons_self .., hq⟩
    · obtain ⟨y, h1, h2⟩ := firstN_spec h
      exact ⟨y, List.mem_cons_of_mem _ h1, h2⟩
theorem takeN_spec {x : Operand} {q : TN E} (h : takeN s gs x = some q) : x = .tmp q.t ∧ s.at gs (q.t, 0) = some (.own q.r) ∧ s.root gs q.r = some q.R := by
  unfold takeN at h
  split at h <;> try (cases h; done)
  rename_i t
  split at h <;> try (cases h; done)
  rename_i r hx
  split at h <;> try (cases h; done)
  rename_i T k m hv x hR
  obtain rfl := Option.some.inj h
  exact ⟨rfl, hx, hR⟩

theorem snd_callN1 {Gl : World → Prop} {f : FuncId} {xs : List Operand} {q : TN E} {sp : Spec} (hfn : FnOk P Gl f sp) {x0 : Operand} (hx0 : x0 ∈ xs) (hq : takeN s gs x0 = some q) (hm : ∀ y ∈ xs, y ∈ o.op.operands) {r : OC E} (h : c_callN1 P s gs f xs q sp = some r)
    (hrun : ∀ (a : Act) (w : World), callOk P f = true → (execOp a.eval o).run P w = .ok (.enter f (xs.map a.eval).toArray) w) : SndC P Gl o s gs r := by
  unfold c_callN1 at h
  split at h <;> try (cases h; done)
  rename_i A hA0
  split at h <;> try (cases h; done)
  rename_i hc
  simp only [Bool.and_eq_true, Bool.not_eq_true'] at hc
  obtain ⟨⟨⟨⟨⟨hc1, hc2⟩, hc3⟩, hc5⟩, hc4⟩, hc6⟩ := hc
  generalize hj : (if sp.sig.rs.length = 1 then 0 else 1) = j at h
  dsimp only at h
  split at h <;> try (cases h; done)
  rename_i hlk
  split at h <;> try (cases h; done)
  rename_i Rq hRq
  split at h <;> try (cases h; done)
  rename_i hk
  obtain rfl := Option.some.inj h
  obtain ⟨t1, t2, t3⟩ := takeN_spec hq
  intro cx k e x g a w V Fp Q hGl hon hden hA hd hp
  have hden : (if (q.x e).isSome then sp.den k (A.d e) else none) = some x := hden
  split at hden <;> try (cases hden; done)
  rename_i hok
  have hxy : q.x e = some (q.y e) := by
    obtain ⟨y, hy⟩ := Option.isSome_iff_exists.1 hok
    unfold TN.y; rw [hy]; rfl
  have ht : q.t ∈ opTmps o := mem_opTmps (hm x0 hx0) t1
  have hen := Lst.at_gr t2 hon
  rw [← hA.tm q.t ht 0] at hen
  have hrs : q.r ∈ s.rootsOf (opTmps o) := Lst.at_roots t2 ht _ (List.mem_singleton_self _)
  have hrt : g.rt q.r = some (some (q.R.ev e)) := (hA.rt q.r hrs).trans (Lst.root_gr hon t3)
  have hnew : g.rt s.nx = none := by have := hA.new 0 (by simp); simpa using this
  have hne : q.r ≠ s.nx := fun h => by rw [h, hnew] at hrt; cases hrt
  obtain ⟨V1, Fp1, hp', w1, w2⟩ := hp.takeOutN (x := q.x e) hen hrt hxy hnew
  -- the state ahead of the call
  have hgv : ∀ t', (q.st s gs).gval t' = s.gval t' := by
    intro t'
    unfold Lst.gval TN.st
    simp only [look]
    by_cases htt : t' = q.t
    · subst htt
      rw [if_pos rfl]
      have hx := t2
      unfold Lst.at at hx
      split at hx <;> try (cases hx; done)
      rename_i sl hsl
      split at hx <;> try (cases hx; done)
      rw [hsl]
      obtain ⟨sg, se⟩ := sl
      have hx : se = _ := Option.some.inj hx
      subst hx
      rfl
    · rw [if_neg (fun h => htt (Prod.mk.inj h).1)]
  have hon' : ∀ gs' : Gs, (q.st s gs).on gs' e = s.on gs' e := by
    intro gs'
    unfold Lst.on
    congr 1
    funext z
    rw [hgv]
  have hA' : Agree ⟨fun z => if z = (q.t, 0) then some (.own s.nx) else g.tm z, upd (upd g.rt q.r (some (some ⟨.opt true (.ptr q.T q.k), .ho, q.hv + 1, some (q.y e)⟩))) s.nx (some (some ⟨.ptr q.T q.k, q.m, 0, q.y e⟩))⟩ (q.st s gs) e (opTmps o) (ownCount sp.sig.rs) := by
    refine ⟨fun t' ht' i => ?_, fun z hz => ?_, fun i hi => ?_⟩
    · unfold Lst.gr
      simp only [hon']
      simp only [TN.st, look]
      by_cases hq : (t', i) = (q.t, 0)
      · rw [if_pos hq, if_pos hq]
        simp only [hon, if_true]
        rfl
      · rw [if_neg hq, if_neg hq]
        have := hA.tm t' ht' i
        unfold Lst.gr at this
        exact this
    · unfold Lst.gr
      simp only [hon']
      simp only [TN.st, look]
      by_cases hq1 : z = s.nx
      · subst hq1
        rw [upd_same, if_pos rfl]
        simp only [hon, if_true]
        rfl
      · rw [upd_ne _ _ hq1, if_neg hq1]
        by_cases hq2 : z = q.r
        · subst hq2
          rw [upd_same, if_pos rfl]
          simp only [hon, if_true]
          rfl
        · rw [upd_ne _ _ hq2, if_neg hq2]
          have hq' : z ∈ s.rootsOf (opTmps o) := by
            unfold Lst.rootsOf at hz ⊢
            unfold TN.st at hz
            rw [List.flatMap_cons] at hz
            rcases List.mem_append.1 hz with hz | hz
            · split at hz
              · simp only [Ent.roots, List.mem_singleton] at hz
                exact absurd hz hq1
              · cases hz
            · exact hz
          have := hA.rt z hq'
          unfold Lst.gr at this
          exact this
    · have h0 := hA.new (i + 1) (by show i + 1 < ownCount sp.sig.rs + 1; omega)
      have e1 : s.nx + 1 + i = s.nx + (i + 1) := by omega
      show upd _ s.nx _ (s.nx + 1 + i) = none
      rw [upd_ne _ _ (by omega), upd_ne]
      · rw [e1]; exact h0
      · intro hc
        rw [e1] at hc
        rw [hc, hrt] at h0
        cases h0
  obtain ⟨hargs, hmuti⟩ := c_args_spec hp' hA' ((hon' gs).trans hon) A.bs sp.sig.ps xs A hA0 hm (fun r h => h)
  have hroots : ∀ r ∈ A.ms, ∃ R, (q.st s gs).root gs r = some R ∧ (⟨fun z => if z = (q.t, 0) then some (.own s.nx) else g.tm z, upd (upd g.rt q.r (some (some ⟨.opt true (.ptr q.T q.k), .ho, q.hv + 1, some (q.y e)⟩))) s.nx (some (some ⟨.ptr q.T q.k, q.m, 0, q.y e⟩))⟩ : G).rt r = some (some (R.ev e)) := by
    intro r hr
    obtain ⟨y, R, h1, h2, h3⟩ := c_args_ms hA0 r hr
    exact ⟨R, h3, (Lst.op_root hA' (hm y h1) h2 (List.mem_singleton_self _)).trans (Lst.root_gr ((hon' gs).trans hon) h3)⟩
  have hcall := call_coreS (Q := Q) (e := e) (s := q.st s gs) (gs := gs) hfn hGl hden hp' hd hargs hmuti hc2 hc3 hc5 hc4 hA'.new hroots (hrun a w hc1)
  refine Oper.wp_mono (fun a' w' hg => ?_) hcall
  obtain ⟨V2, Fp2, hp2, hkeep⟩ := hg
  obtain ⟨Rk, Rm, Rhv, Rx⟩ := Rq
  have hk : Rk = .ptr q.T q.k := hk
  subst hk
  generalize hru : (((c_res (E' := E × (HL (sp.sig.rs.map (·.1)) × HL ((mutsOf sp.sig.ps).map (·.1)))) sp.sig.rs j (s.nx + 1) fun e => e.2.1).2 ++ c_mut (q.st s gs) gs sp.sig.ps A.ms fun e => e.2.2) ++ A.ts.map fun r => (r, none)) = ru at hlk hRq
  have hp2 : Pre cx ((⟨fun z => if z = (q.t, 0) then some (.own s.nx) else g.tm z, upd (upd g.rt q.r (some (some ⟨.opt true (.ptr q.T q.k), .ho, q.hv + 1, some (q.y e)⟩))) s.nx (some (some ⟨.ptr q.T q.k, q.m, 0, q.y e⟩))⟩ : G).put o.dst (evs (c_res (E' := E × (HL (sp.sig.rs.map (·.1)) × HL ((mutsOf sp.sig.ps).map (·.1)))) sp.sig.rs j (s.nx + 1) fun e => e.2.1).1 (e, x)) (rtU (upd (upd g.rt q.r (some (some ⟨.opt true (.ptr q.T q.k), .ho, q.hv + 1, some (q.y e)⟩))) s.nx (some (some ⟨.ptr q.T q.k, q.m, 0, q.y e⟩))) ru (e, x))) a' w' V2 Fp2 := by
    rw [← hru, ← hj]; exact hp2
  have hlr : look q.r ru = none := by
    cases hl : look q.r ru with
    | none => rfl
    | some y => rw [hl] at hlk; cases hlk
  have hr2 : rtU (upd (upd g.rt q.r (some (some ⟨.opt true (.ptr q.T q.k), .ho, q.hv + 1, some (q.y e)⟩))) s.nx (some (some ⟨.ptr q.T q.k, q.m, 0, q.y e⟩))) ru (e, x) q.r = some (some ⟨.opt true (.ptr q.T q.k), .ho, q.hv + 1, some (q.y e)⟩) := by
    simp only [rtU, hlr]
    rw [upd_ne _ _ hne, upd_same]
  have hq2 : rtU (upd (upd g.rt q.r (some (some ⟨.opt true (.ptr q.T q.k), .ho, q.hv + 1, some (q.y e)⟩))) s.nx (some (some ⟨.ptr q.T q.k, q.m, 0, q.y e⟩))) ru (e, x) s.nx = some (some ⟨.ptr q.T q.k, Rm, Rhv, Rx (e, x)⟩) := by
    simp only [rtU]
    cases hl : look s.nx ru with
    | none =>
      rw [hl] at hRq
      have hRq := Option.some.inj hRq
      injection hRq with e1 e2 e3 e4
      subst e2 e3
      simp only []
      rw [upd_same, ← e4]
    | some y =>
      rw [hl] at hRq
      have hRq : y = some ⟨.ptr q.T q.k, Rm, Rhv, Rx⟩ := hRq
      rw [hRq]
      rfl
  obtain ⟨k1, k2⟩ := hkeep q.r ⟨.opt true (.ptr q.T q.k), .ho, q.hv + 1, some (q.y e)⟩ (by show upd _ _ _ _ = _; rw [upd_ne _ _ hne, upd_same]; rfl)
  obtain ⟨k3, _⟩ := hkeep s.nx ⟨.ptr q.T q.k, q.m, 0, q.y e⟩ (upd_same _ _ _)
  have hVV : V2 s.nx = V2 q.r := by rw [k3, w2, k1, w1]
  obtain ⟨Fp3, hp3⟩ := hp2.putBackN hr2 hq2 hne hVV
  refine ⟨hp3.defers, hp3.size, V2, Fp3, ?_⟩
  have hrr : upd (upd (rtU (upd (upd g.rt q.r (some (some ⟨.opt true (.ptr q.T q.k), .ho, q.hv + 1, some (q.y e)⟩))) s.nx (some (some ⟨.ptr q.T q.k, q.m, 0, q.y e⟩))) ru (e, x)) q.r (some (some ⟨.opt true (.ptr q.T q.k), Rm, q.hv + 1 + 1, some (Rx (e, x))⟩))) s.nx (some none) =
      rtU g.rt ((q.r, some ⟨.opt true (.ptr q.T q.k), Rm, q.hv + 2, fun e => some (Rx e)⟩) :: (s.nx, none) :: ru) (e, x) := by
    rw [rtU_cons, rtU_cons]
    funext z
    by_cases h1 : z = s.nx
    · subst h1
      rw [upd_same, upd_ne _ _ (Ne.symm hne), upd_same]
      rfl
    · rw [upd_ne _ _ h1]
      by_cases h2 : z = q.r
      · subst h2
        rw [upd_same, upd_same]
        rfl
      · rw [upd_ne _ _ h2, upd_ne _ _ h2, upd_ne _ _ h1]
        simp only [rtU]
        cases look z ru with
        | some y => rfl
        | none =>
          simp only []
          rw [upd_ne _ _ h1, upd_ne _ _ h2]
  have hm3 := hp3.mem
  have he3 := hp3.ents
  simp only [G.put] at hm3 he3
  rw [hrr] at hm3 he3
  have hr3 : rtU g.rt ((q.r, some ⟨.opt true (.ptr q.T q.k), Rm, q.hv + 2, fun e => some (Rx e)⟩) :: (s.nx, none) :: ru) (e, x) q.r = some (some ⟨.opt true (.ptr q.T q.k), Rm, q.hv + 2, some (Rx (e, x))⟩) := by rw [rtU_cons, upd_same]; rfl
  have hrl : rtU g.rt ((q.r, some ⟨.opt true (.ptr q.T q.k), Rm, q.hv + 1, fun e => some (Rx e)⟩) :: (s.nx, none) :: ru) (e, x) = upd (rtU g.rt ((q.r, some ⟨.opt true (.ptr q.T q.k), Rm, q.hv + 2, fun e => some (Rx e)⟩) :: (s.nx, none) :: ru) (e, x)) q.r (some (some ⟨.opt true (.ptr q.T q.k), Rm, q.hv + 1, some (Rx (e, x))⟩)) := by
    rw [rtU_cons, rtU_cons (q := some ⟨.opt true (.ptr q.T q.k), Rm, q.hv + 2, fun e => some (Rx e)⟩)]
    funext z
    by_cases hz : z = q.r
    · subst hz; rw [upd_same, upd_same]; rfl
    · rw [upd_ne _ _ hz, upd_ne _ _ hz, upd_ne _ _ hz]
  refine ⟨by rw [hrl]; exact hm3.relabel hr3, fun t' i ent he => ?_⟩
  simp only [G.put] at he
  rw [hrl]
  by_cases hdt : some t' = o.dst
  · rw [if_pos hdt] at he
    obtain ⟨v', u', i1, i2, i3⟩ := he3 t' i ent (by rw [if_pos hdt]; exact he)
    exact ⟨v', u', i1, i2, i3.relabel hr3 fun hv hh => by rw [c_res_hv _ _ _ _ _ _ he] at hh; cases hh⟩
  · rw [if_neg hdt] at he
    obtain ⟨_, u0, _, _, j3⟩ := hp.ents t' i ent he
    have hlt : ∀ hv, ent.hvAt q.r = some hv → hv < q.hv + 1 := fun hv hh => Nat.lt_succ_of_le (j3.hv_le hrt hv hh)
    by_cases hz : (t', i) = (q.t, 0)
    · obtain ⟨rfl, rfl⟩ := Prod.mk.inj hz
      obtain ⟨v', u', i1, i2, i3⟩ := hp2.ents q.t 0 (.own s.nx) (by simp only [G.put]; rw [if_neg hdt]; simp)
      rw [hen] at he
      obtain rfl := Option.some.inj he
      obtain ⟨R0, j1, j2⟩ := i3
      have j1 : _ = some R0 := j1
      rw [show ((⟨fun z => if z = (q.t, 0) then some (.own s.nx) else g.tm z, upd (upd g.rt q.r (some (some ⟨.opt true (.ptr q.T q.k), .ho, q.hv + 1, some (q.y e)⟩))) s.nx (some (some ⟨.ptr q.T q.k, q.m, 0, q.y e⟩))⟩ : G).put o.dst _ (rtU (upd (upd g.rt q.r (some (some ⟨.opt true (.ptr q.T q.k), .ho, q.hv + 1, some (q.y e)⟩))) s.nx (some (some ⟨.ptr q.T q.k, q.m, 0, q.y e⟩))) ru (e, x))).rt s.nx = _ from hq2] at j1
      obtain rfl := Option.some.inj j1
      exact ⟨v', u', i1, i2, some ⟨.opt true (.ptr q.T q.k), Rm, q.hv + 1, some (Rx (e, x))⟩, upd_same _ _ _, fun _ => (j2 (by simp)).trans hVV⟩
    · obtain ⟨v', u', i1, i2, i3⟩ := he3 t' i ent (by rw [if_neg hdt, if_neg hz]; exact he)
      exact ⟨v', u', i1, i2, i3.relabel hr3 hlt⟩
theorem snd_callN {Gl : World → Prop} {tab : List (FuncId × Spec)} (htab : ∀ f sp, (f, sp) ∈ tab → FnOk P Gl f sp) {f : FuncId} {xs : List Operand} {ta : Array TypeId} {r : OC E} (ho : o.op = .call { callee := .value (.func f), args := xs.toArray, argTypes := ta }) (h : c_callN P tab s gs f xs = some r) : SndC P Gl o s gs r := by
  unfold c_callN at h
  split at h <;> try (cases h; done)
  rename_i q hq
  obtain ⟨x0, h1, h2⟩ := firstN_spec hq
  obtain ⟨sp, hsp, h⟩ := tryT_spec h
  refine snd_callN1 (htab f sp hsp) h1 h2 (by intro y hy; simp [ho, Op.operands, Call.operands, hy]) h fun a w hc1 => ?_
  unfold callOk at hc1
  split at hc1 <;> try (cases hc1; done)
  rename_i fn hfn
  simp only [Bool.and_eq_true, Bool.not_eq_true'] at hc1
  have n1 : fn.name ≠ "runtime.NumGoroutine" := by simpa using hc1.1
  have n2 : fn.body ≠ none := by intro h0; rw [h0] at hc1; cases hc1.2
  simp [execOp, ho, resolve, Act.eval, Deferred.ofValue, invoke, callFunc, hfn, n1, n2]
end
end Go.Lift

namespace Go.Lift
open Go.MapKept
set_option linter.unusedVariables false
set_option linter.unusedSimpArgs false

/-! ### a variable that is captured: it is only read from then on -/
section
variable {P : Program} {cx : Cx} {g : G} {a : Act} {w : World} {V : Nat → Value} {Fp : Nat → List Nat} {o : Oper} {Q : Exit → Act → World → Prop}
theorem op_boxV (h : Pre cx g a w V Fp) {T : TypeId} {x : Operand} (ho : o.op = .box T x) {k : Kt} {y : k.T} (hx : ESat cx g.rt V Fp w (.val k y) (a.eval x)) (hd : ∀ t, o.dst = some t → cx.T t) :
    o.wp P a w (fun a' w' => GSat cx (g.put o.dst (one (.val (.ptr T k) y)) g.rt) a' w') Q := by
  obtain ⟨cs, h1, h2⟩ := hx
  have hc : (a.eval x).cells = cs.toArray := by
    unfold Shows at h1
    split at h1
    · rw [h1]; rfl
    · have h3 := h2
      rw [h1] at h3
      have := Rz_one _ _ _ _ _ _ _ h3 (a.eval x) (List.mem_singleton_self _)
      rw [h1]
      cases hv : a.eval x <;> rw [hv] at this <;> first | rfl | (simp [Value.oneCell'] at this; done)
  refine wp_val (v := .pointer (some ⟨w.heap.size, 0, none⟩)) (w' := w.alloc (.cells cs.toArray T)) (by simp [execOp, ho, Instr.box, newVar, newRow, hc]) ?_
  have hfr : Fr w (w.alloc (.cells cs.toArray T)) (· ∈ ([] : List Nat)) := ⟨rfl, rfl, rfl, by simp, fun b hb _ => RowKit.Below.heap_alloc _ _ _ hb⟩
  have := h.many (al := []) (w' := w.alloc (.cells cs.toArray T)) (F := []) hfr (by simp) (by simp) (by simp) (by simp) (by simp) (by simp) (d := o.dst) hd (v := .pointer (some ⟨w.heap.size, 0, none⟩)) (es := one (.val (.ptr T k) y)) (fun i ent hi hK => by
    unfold one at hi
    split at hi
    · rename_i h0; subst h0
      obtain rfl := Option.some.inj hi
      refine ⟨_, rfl, [.pointer (some ⟨w.heap.size, 0, none⟩)], by simp [Shows, Kt.isAgg], rfl, .inr ⟨by simp, w.heap.size, 0, cs, rfl, ?_, by simp, Rz_keep hK _ _ _ _ _ (by intro b hb; cases hb) h2, ?_⟩⟩
      · refine ⟨.inr (.inr h.mem.size), fun r hr => ?_⟩
        have : w.heap.size ∈ Fp r := hr
        have := h.mem.lt this
        omega
      · have h5 := CellsAt_block (n := cs.length) (heap_alloc_new' w (.cells cs.toArray T))
        have e1 : (cs.toArray.toList.take cs.length) = cs := by simp
        rw [e1] at h5
        exact h5
    · cases hi)
  exact this
end

section
variable {E : Type} {P : Program} {o : Oper} {s : Lst E} {gs : Gs}
def c_boxV (s : Lst E) (gs : Gs) (T : TypeId) (x : Operand) : Option (OR E) := match s.op gs x with
  | some (.val k y) => some ⟨none, [(0, .val (.ptr T k) y)], [], 0⟩
  | _ => none
theorem snd_boxV {T : TypeId} {x : Operand} {r : OR E} (ho : o.op = .box T x) (h : c_boxV s gs T x = some r) : Snd P o s gs r := by
  unfold c_boxV at h
  have mx : x ∈ o.op.operands := by simp [ho, Op.operands]
  split at h <;> try (cases h; done)
  rename_i k y hx
  obtain rfl := Option.some.inj h
  intro cx e g a w V Fp Q h1 hok hA hd hp
  rw [evs_one, rtU_nil]
  exact op_boxV hp ho (Lst.op_esat hp hA h1 mx hx) hd

/-! ### maps that are read -/
theorem map_val {cx : Cx} {rt : Nat → Option GR} {V : Nat → Value} {Fp : Nat → List Nat} {w : World} {a b : Kt} {x : Option (List (a.T × b.T))} {v : Value} (h : ESat cx rt V Fp w (.val (.map a b) x) v) :
    (x = none → v = .map none) ∧ ∀ l, x = some l → ∃ g es ck, v = .map (some g) ∧ w.heap[g]? = some (.map es ck) ∧ es.toList.map (fun e => (e.key, e.val)) = l.map (fun q => (scV a q.1, scV b q.2)) := by
  obtain ⟨cs, h1, h2⟩ := h
  have h1 : cs = [v] := h1
  subst h1
  obtain ⟨_, h3⟩ := h2
  rcases (h3.resolve_left fun h => by cases h.1).2 with ⟨h4, h5⟩ | ⟨g, es, ck, l, h4, h5, _, _, h6, h7⟩
  · refine ⟨fun _ => (List.cons.inj h5).1, fun l hl => ?_⟩
    rw [h4] at hl; cases hl
  · refine ⟨fun hn => (by rw [h4] at hn; cases hn), fun l' hl => ?_⟩
    rw [h4] at hl
    obtain rfl := Option.some.inj hl
    exact ⟨g, es, ck, (List.cons.inj h5).1, h6, h7⟩
def c_lookS (P : Program) (s : Lst E) (gs : Gs) (t : TypeId) (x y : Operand) (ok : Bool) : Option (OR E) := match s.op gs x, s.op gs y with
  | some (.val (.map ka kb) z), some (.val ka' k) => if h : ka' = ka then if (mapT P t ka kb).isSome then
      some ⟨none, if ok then [(1, .val kb fun e => lookV ka kb (h ▸ k e) (z e)), (2, .val .bool fun e => (mget ka kb (h ▸ k e) (z e)).isSome)] else [(0, .val kb fun e => lookV ka kb (h ▸ k e) (z e))], [], 0⟩
      else none else none
  | _, _ => none
theorem snd_lookS {t : TypeId} {x y : Operand} {ok : Bool} {r : OR E} (ho : o.op = .lookup t x y ok) (h : c_lookS P s gs t x y ok = some r) : Snd P o s gs r := by
  unfold c_lookS at h
  have mx : x ∈ o.op.operands := by simp [ho, Op.operands]
  have my : y ∈ o.op.operands := by simp [ho, Op.operands]
  split at h <;> try (cases h; done)
  rename_i ka kb z ka' k hx hy
  split at h <;> try (cases h; done)
  rename_i hk
  split at h <;> try (cases h; done)
  rename_i hT
  obtain rfl := Option.some.inj h
  obtain ⟨kt, hT⟩ := Option.isSome_iff_exists.1 hT
  obtain ⟨et, d, i, hu, hd, hkey, hs, hi, hz, hv⟩ := mapT_spec hT
  subst hk
  intro cx e g a w V Fp Q h1 hok hA hdst hp
  obtain ⟨m1, m2⟩ := map_val (Lst.op_esat hp hA h1 mx hx)
  have hkv : a.eval y = scV ka' (k e) := by
    have hu2 := hT
    unfold mapT at hu2
    split at hu2 <;> try (cases hu2; done)
    split at hu2 <;> try (cases hu2; done)
    rename_i hkk
    exact sc_eval hkk (Lst.op_esat hp hA h1 my hy)
  have hrun := run_look (P := P) (w := w) (ok := ok) (k := k e) hu hd hkey hs hi hz m1 m2
  refine wp_val (v := (if ok then .tuple #[scV kb (lookV ka' kb (k e) (z e)), .bool (mget ka' kb (k e) (z e)).isSome] else scV kb (lookV ka' kb (k e) (z e)))) (by simp only [execOp, ho, hkv, Sem.run_bind, hrun, Result.andThen_ok]; rfl) ?_
  rw [rtU_nil]
  refine hp.pureN hdst fun j en hj => ?_
  cases ok with
  | true =>
    obtain ⟨ent, h2, rfl⟩ := Option.map_eq_some_iff.1 hj
    simp only [if_true, look] at h2
    split at h2
    · rename_i hj1
      obtain rfl := Option.some.inj h2
      subst hj1
      exact ⟨_, rfl, esat_sc hv _⟩
    · split at h2
      · rename_i hj2
        obtain rfl := Option.some.inj h2
        subst hj2
        exact ⟨_, rfl, esat_bool _⟩
      · cases h2
  | false =>
    obtain ⟨ent, h2, rfl⟩ := Option.map_eq_some_iff.1 hj
    simp only [Bool.false_eq_true, if_false, look] at h2
    split at h2
    · rename_i hj1
      obtain rfl := Option.some.inj h2
      subst hj1
      exact ⟨_, rfl, esat_sc hv _⟩
    · cases h2
def c_lenS (P : Program) (s : Lst E) (gs : Gs) (t : TypeId) (x : Operand) : Option (OR E) := match s.op gs x with
  | some (.val (.map ka kb) z) => match P.underlying t with
    | some (.map _ _) => some ⟨none, [(0, .val (.int .i64) fun e => ((((z e).getD []).length : Nat) : Int))], [], 0⟩
    | _ => none
  | _ => none
theorem snd_lenS {t : TypeId} {x : Operand} {r : OR E} (ho : o.op = .call { callee := .builtin .len, args := #[x], argTypes := #[t] }) (h : c_lenS P s gs t x = some r) : Snd P o s gs r := by
  unfold c_lenS at h
  have mx : x ∈ o.op.operands := by simp [ho, Op.operands, Call.operands]
  split at h <;> try (cases h; done)
  rename_i ka kb z hx
  split at h <;> try (cases h; done)
  rename_i kt et hu
  obtain rfl := Option.some.inj h
  refine Snd.value fun cx e g ac w V Fp h1 hok hA hp => ?_
  obtain ⟨m1, m2⟩ := map_val (Lst.op_esat hp hA h1 mx hx)
  have run : ∀ {v u : Value}, ac.eval x = v → (∀ ty, (Builtin.len_ #[t] ty #[v]).run P w = .ok u w) → (execOp ac.eval o).run P w = .ok (.value u) w := by
    intro v u h1 h2
    simp only [execOp, ho, resolve, Sem.run_bind, invoke, builtin]
    simp [h1, h2]
  cases hl : z e with
  | none =>
    refine ⟨.int .i64 0, run (m1 hl) fun ty => ?_, ?_⟩
    · simp [Builtin.len_, run_underlying hu, goInt]
    · simp only [Ent.ev, hl]; exact esat_int _ _
  | some l =>
    obtain ⟨b, es, ck, h2, h3, h4⟩ := m2 l hl
    have hsz : es.size = l.length := by have := congrArg List.length h4; simpa using this
    refine ⟨.int .i64 l.length, run h2 fun ty => ?_, ?_⟩
    · simp [Builtin.len_, run_underlying hu, goInt, MapKept.run_getObj_map (P := P) (w := w) (r := b) h3, Result.andThen, hsz]
    · simp only [Ent.ev, hl]; exact esat_int _ _

/-! ### what stands in a place that is read -/
def c_loadP (P : Program) (s : Lst E) (gs : Gs) (t : TypeId) (x : Operand) : Option (OR E) := match s.op gs x with
  | none => none
  | some en => match s.addr gs en with
    | some (.place (.opt false k) y, c) => if tyOk P t (.opt false k) then some ⟨andChk c (some fun e => Option.isSome (y e)), [(0, .val k fun e => Option.getD (y e) k.dflt)], [], 0⟩ else none
    | _ => none
theorem snd_loadP {t : TypeId} {x : Operand} {r : OR E} (ho : o.op = .load t x) (h : c_loadP P s gs t x = some r) : Snd P o s gs r := by
  unfold c_loadP at h
  have mx : x ∈ o.op.operands := by simp [ho, Op.operands]
  split at h <;> try (cases h; done)
  rename_i en hen
  split at h <;> try (cases h; done)
  rename_i k y c hc
  split at h <;> try (cases h; done)
  rename_i ht
  obtain rfl := Option.some.inj h
  intro cx e g a w V Fp Q h1 hok hA hd hp
  have hx := Lst.op_esat hp hA h1 mx hen
  have hr := fun r => Lst.op_root hA mx hen (r := r)
  rw [OR.ok_holds] at hok
  obtain ⟨k1, k2⟩ := andChk_holds hok
  have k2 : Option.isSome (y e) = true := k2
  obtain ⟨z, hz⟩ := Option.isSome_iff_exists.1 k2
  have e1 : (Option.getD (y e) k.dflt : k.T) = z := by rw [hz]; rfl
  obtain ⟨b, o', cc, h2, h3, h4, h5, h6⟩ := Lst.addr_esat hp h1 hc k1 hr hx
  obtain ⟨v, hrun, hs⟩ := run_load_at ht h6 (Rz_len _ _ _ _ _ _ _ h5) bare_size
  rw [evs_one, rtU_nil]
  refine wp_val (v := v) (by simp only [execOp, ho, h2, Sem.run_bind, hrun, Result.andThen_ok]; rfl) (hp.pure hd ⟨cc, hs, ?_⟩)
  show Rz w (cx.Sh Fp) k .sh [] (Option.getD (y e) k.dflt) cc
  rw [e1]
  rcases h5 with h5 | ⟨z', h7, h8⟩
  · have : y e = none := h5.1
    rw [hz] at this; cases this
  · have h7 : y e = some z' := h7
    rw [hz] at h7
    obtain rfl := Option.some.inj h7
    exact h8
end
end Go.Lift

namespace Go.Lift
set_option linter.unusedVariables false
set_option linter.unusedSimpArgs false

/-! ### Regions: what an operation does to the state at hand, in whatever order -/
structure GD where
  on : Bool
  dst : Option Tmp
  es : Nat → Option GEnt
  off : Nat → Option GEnt
  ru : List (Nat × GR)
  bo : Nat → Option GR → Option GR := fun _ x => x

def G.app (g : G) (δ : GD) : G where
  tm := fun q => if some q.1 = δ.dst then (if δ.on then δ.es q.2 else δ.off q.2) else g.tm q
  rt := fun r => match look r δ.ru with | some q => if δ.on then some q else δ.bo r (g.rt r) | none => g.rt r

/-- What an operation looks at and what it writes. -/
structure Tk where
  tr : List Tmp
  tw : Option Tmp
  rr : List Nat
  rw : List Nat

def Tk.wt (x : Tk) (t : Tmp) : Bool := x.tw == some t
def Tk.wr (x : Tk) (r : Nat) : Bool := x.rw.contains r
def Tk.tt (x : Tk) (t : Tmp) : Bool := x.tr.contains t || x.tw == some t
def Tk.tR (x : Tk) (r : Nat) : Bool := x.rr.contains r || x.rw.contains r
/-- One writes what the other looks at or writes. -/
def cf1 (x y : Tk) : Bool := (match x.tw with | some t => y.tt t | none => false) || x.rw.any y.tR
def cf (x y : Tk) : Bool := cf1 x y || cf1 y x

structure AgreeT (g g' : G) (tk : Tk) : Prop where
  tm : ∀ t ∈ tk.tr, ∀ c, g.tm (t, c) = g'.tm (t, c)
  rt : ∀ r ∈ tk.rr, g.rt r = g'.rt r

def OpLoc (P : Program) (ops : Array Oper) (cx : Cx) (o : Oper) (δ : GD) (tk : Tk) (g0 : G) : Prop :=
  ∀ g, AgreeT g g0 tk → ∀ a w, GSat cx g a w →
    if Region.wanted o (yielded ops a.tmps) = true then ∀ (Q : Exit → Act → World → Prop), o.wp P a w (fun a' w' => GSat cx (g.app δ) a' w') Q else GSat cx (g.app δ) (a.put o.dst undef) w

/-- The operations that have come up, in the order of the text. -/
def gS (g0 : G) (listed : Nat → Bool) : List GD → Nat → G
  | [], _ => g0
  | δ :: l, i => gS (if listed i then g0.app δ else g0) listed l (i + 1)

theorem app_tm {g : G} {δ : GD} {q : Nat × Nat} (h : some q.1 ≠ δ.dst) : (g.app δ).tm q = g.tm q := by simp [G.app, h]
theorem app_rt {g : G} {δ : GD} {r : Nat} (h : look r δ.ru = none) : (g.app δ).rt r = g.rt r := by
  simp only [G.app, h]

theorem gS_tm (q : Nat × Nat) : ∀ (l : List GD) (i : Nat) (g g' : G) (S S' : Nat → Bool), g.tm q = g'.tm q → (∀ j δ, l[j]? = some δ → some q.1 = δ.dst → S (i + j) = S' (i + j)) → (gS g S l i).tm q = (gS g' S' l i).tm q
  | [], _, _, _, _, _, h, _ => h
  | δ :: l, i, g, g', S, S', h, hS => by
    simp only [gS]
    refine gS_tm q l (i + 1) _ _ S S' ?_ fun j δ' hj hd => by
      have := hS (j + 1) δ' (by simpa using hj) hd
      rwa [show i + (j + 1) = i + 1 + j by omega] at this
    by_cases hd : some q.1 = δ.dst
    · have h0 := hS 0 δ rfl hd
      rw [Nat.add_zero] at h0
      rw [h0]
      split
      · simp only [G.app, if_pos hd]
      · exact h
    · split <;> split <;> first | (simp only [app_tm hd]; exact h) | exact h
theorem gS_rt (r : Nat) : ∀ (l : List GD) (i : Nat) (g g' : G) (S S' : Nat → Bool), g.rt r = g'.rt r → (∀ j δ, l[j]? = some δ → look r δ.ru ≠ none → S (i + j) = S' (i + j)) → (gS g S l i).rt r = (gS g' S' l i).rt r
  | [], _, _, _, _, _, h, _ => h
  | δ :: l, i, g, g', S, S', h, hS => by
    simp only [gS]
    refine gS_rt r l (i + 1) _ _ S S' ?_ fun j δ' hj hd => by
      have := hS (j + 1) δ' (by simpa using hj) hd
      rwa [show i + (j + 1) = i + 1 + j by omega] at this
    by_cases hd : look r δ.ru = none
    · split <;> split <;> first | (simp only [app_rt hd]; exact h) | exact h
    · have h0 := hS 0 δ rfl hd
      rw [Nat.add_zero] at h0
      rw [h0]
      split
      · simp only [G.app]
        rw [h]
      · exact h

/-- One more has come up. -/
theorem gS_add_tm {i : Nat} {δ : GD} (q : Nat × Nat) : ∀ (l : List GD) (k : Nat) (g : G) (S : Nat → Bool), l[i]? = some δ → S (k + i) = false → (∀ j δ', l[j]? = some δ' → i < j → S (k + j) = true → some q.1 = δ'.dst → some q.1 = δ.dst → False) →
    (gS g (fun j => S j || j == k + i) l k).tm q = ((gS g S l k).app δ).tm q := by
  induction i with
  | zero =>
    intro l k g S hl hS hw
    cases l with
    | nil => cases hl
    | cons δ' l =>
      obtain rfl := Option.some.inj hl
      simp only [gS, Nat.add_zero] at hS ⊢
      simp only [hS, beq_self_eq_true, Bool.or_true, if_true]
      by_cases hd : some q.1 = δ'.dst
      · have h1 : ((gS (if false = true then g.app δ' else g) S l (k + 1)).app δ').tm q = (g.app δ').tm q := by simp only [G.app, if_pos hd]
        rw [h1]
        have : ∀ (l : List GD) (m : Nat) (g' : G) (S' : Nat → Bool), (∀ j δ'', l[j]? = some δ'' → S' (m + j) = true → some q.1 ≠ δ''.dst) → (gS g' S' l m).tm q = g'.tm q := by
          intro l
          induction l with
          | nil => intro m g' S' _; rfl
          | cons δ0 l ih =>
            intro m g' S' h
            simp only [gS]
            rw [ih (m + 1) _ S' fun j δ'' hj hs => h (j + 1) δ'' (by simpa using hj) (by rwa [show m + (j + 1) = m + 1 + j by omega])]
            split
            · rename_i hs
              exact app_tm (h 0 δ0 rfl (by simpa using hs))
            · rfl
        refine this l (k + 1) _ _ fun j δ'' hj hs hd' => ?_
        have e : (k + 1 + j == k) = false := by
          have : ¬ (k + 1 + j = k) := by omega
          simpa using this
        rw [e, Bool.or_false] at hs
        exact hw (j + 1) δ'' (by simpa using hj) (by omega) (by rwa [show k + (j + 1) = k + 1 + j by omega]) hd' hd
      · rw [app_tm hd]
        refine gS_tm q l (k + 1) _ _ _ _ ?_ fun j δ'' hj hd' => ?_
        · rw [app_tm hd]; rfl
        · have e : (k + 1 + j == k) = false := by
            have : ¬ (k + 1 + j = k) := by omega
            simpa using this
          rw [e, Bool.or_false]
  | succ i ih =>
    intro l k g S hl hS hw
    cases l with
    | nil => cases hl
    | cons δ' l =>
      simp only [gS]
      have e : (k == k + (i + 1)) = false := by
        have : ¬ (k = k + (i + 1)) := by omega
        exact beq_eq_false_iff_ne.2 this
      simp only [e, Bool.or_false]
      have := ih l (k + 1) (if S k = true then g.app δ' else g) S (by simpa using hl) (by rwa [show k + 1 + i = k + (i + 1) by omega]) fun j δ'' hj hlt hs => hw (j + 1) δ'' (by simpa using hj) (by omega) (by rwa [show k + (j + 1) = k + 1 + j by omega])
      rw [show k + 1 + i = k + (i + 1) by omega] at this
      exact this
theorem gS_add_rt {i : Nat} {δ : GD} (r : Nat) : ∀ (l : List GD) (k : Nat) (g : G) (S : Nat → Bool), l[i]? = some δ → S (k + i) = false → (∀ j δ', l[j]? = some δ' → i < j → S (k + j) = true → look r δ'.ru ≠ none → look r δ.ru ≠ none → False) →
    (gS g (fun j => S j || j == k + i) l k).rt r = ((gS g S l k).app δ).rt r := by
  induction i with
  | zero =>
    intro l k g S hl hS hw
    cases l with
    | nil => cases hl
    | cons δ' l =>
      obtain rfl := Option.some.inj hl
      simp only [gS, Nat.add_zero] at hS ⊢
      simp only [hS, beq_self_eq_true, Bool.or_true, if_true]
      by_cases hd : look r δ'.ru = none
      · rw [app_rt hd]
        refine gS_rt r l (k + 1) _ _ _ _ ?_ fun j δ'' hj hd' => ?_
        · rw [app_rt hd]; rfl
        · have e : (k + 1 + j == k) = false := by
            have : ¬ (k + 1 + j = k) := by omega
            simpa using this
          rw [e, Bool.or_false]
      · have : ∀ (l : List GD) (m : Nat) (g' : G) (S' : Nat → Bool), (∀ j δ'', l[j]? = some δ'' → S' (m + j) = true → look r δ''.ru = none) → (gS g' S' l m).rt r = g'.rt r := by
          intro l
          induction l with
          | nil => intro m g' S' _; rfl
          | cons δ0 l ih =>
            intro m g' S' h
            simp only [gS]
            rw [ih (m + 1) _ S' fun j δ'' hj hs => h (j + 1) δ'' (by simpa using hj) (by rwa [show m + (j + 1) = m + 1 + j by omega])]
            split
            · rename_i hs
              exact app_rt (h 0 δ0 rfl (by simpa using hs))
            · rfl
        have none_later : ∀ j δ'', l[j]? = some δ'' → S (k + 1 + j) = true → look r δ''.ru = none := fun j δ'' hj hs => by
          cases hl : look r δ''.ru with
          | none => rfl
          | some x => exact (hw (j + 1) δ'' (by simpa using hj) (by omega) (by rwa [show k + (j + 1) = k + 1 + j by omega]) (by rw [hl]; simp) hd).elim
        rw [this l (k + 1) _ _ fun j δ'' hj hs => ?_]
        · simp only [G.app]
          rw [this l (k + 1) _ _ none_later]
          rfl
        · have e : (k + 1 + j == k) = false := by
            have : ¬ (k + 1 + j = k) := by omega
            simpa using this
          rw [e, Bool.or_false] at hs
          exact none_later j δ'' hj hs
  | succ i ih =>
    intro l k g S hl hS hw
    cases l with
    | nil => cases hl
    | cons δ' l =>
      simp only [gS]
      have e : (k == k + (i + 1)) = false := by
        have : ¬ (k = k + (i + 1)) := by omega
        exact beq_eq_false_iff_ne.2 this
      simp only [e, Bool.or_false]
      have := ih l (k + 1) (if S k = true then g.app δ' else g) S (by simpa using hl) (by rwa [show k + 1 + i = k + (i + 1) by omega]) fun j δ'' hj hlt hs => hw (j + 1) δ'' (by simpa using hj) (by omega) (by rwa [show k + (j + 1) = k + 1 + j by omega])
      rw [show k + 1 + i = k + (i + 1) by omega] at this
      exact this
end Go.Lift

namespace Go.Lift
set_option linter.unusedVariables false
set_option linter.unusedSimpArgs false

/-! ### Which operation waits for which -/
def onB (o : Oper) (i : Nat) : Bool := o.after.toList.any fun e => Region.binds .any e && e.on == i
/-- The operations ahead of one, as bits. -/
def bmask (acc : List Nat) (o : Oper) : Nat := o.after.toList.foldl (fun s e => if Region.binds .any e then s ||| 2 ^ e.on ||| acc.getD e.on 0 else s) 0
def befs : List Oper → List Nat → List Nat
  | [], acc => acc
  | o :: l, acc => befs l (acc ++ [bmask acc o])

theorem testBit_two_pow' (n i : Nat) (h : (2 ^ n).testBit i = true) : i = n := by
  rw [Nat.testBit_two_pow] at h
  have : n = i := by simpa using h
  exact this.symm

theorem bmask_spec {acc : List Nat} {o : Oper} {i : Nat} (h : (bmask acc o).testBit i = true) : ∃ e ∈ o.after, Region.binds .any e = true ∧ (e.on = i ∨ (acc.getD e.on 0).testBit i = true) := by
  unfold bmask at h
  have : ∀ (l : List Edge) (s : Nat), (l.foldl (fun s e => if Region.binds .any e then s ||| 2 ^ e.on ||| acc.getD e.on 0 else s) s).testBit i = true →
      s.testBit i = true ∨ ∃ e ∈ l, Region.binds .any e = true ∧ (e.on = i ∨ (acc.getD e.on 0).testBit i = true) := by
    intro l
    induction l with
    | nil => intro s h; exact .inl h
    | cons e l ih =>
      intro s h
      rw [List.foldl_cons] at h
      rcases ih _ h with h1 | ⟨e', h1, h2⟩
      · split at h1
        · rename_i hb
          rw [Nat.testBit_or, Nat.testBit_or, Bool.or_eq_true, Bool.or_eq_true] at h1
          rcases h1 with (h1 | h1) | h1
          · exact .inl h1
          · exact .inr ⟨e, List.mem_cons_self .., hb, .inl (testBit_two_pow' _ _ h1).symm⟩
          · exact .inr ⟨e, List.mem_cons_self .., hb, .inr h1⟩
        · exact .inl h1
      · exact .inr ⟨e', List.mem_cons_of_mem _ h1, h2⟩
  rcases this _ _ h with h1 | ⟨e, h1, h2⟩
  · simp at h1
  · exact ⟨e, Array.mem_toList_iff.1 h1, h2⟩

/-- Each bit of the table leads over an edge. -/
theorem befs_spec : ∀ (l : List Oper) (acc : List Nat) (pre : List Oper), acc.length = pre.length →
    (∀ j o i, pre[j]? = some o → (acc.getD j 0).testBit i = true → ∃ e ∈ o.after, Region.binds .any e = true ∧ (e.on = i ∨ (e.on < j ∧ (acc.getD e.on 0).testBit i = true))) →
    ∀ j o i, (pre ++ l)[j]? = some o → ((befs l acc).getD j 0).testBit i = true → ∃ e ∈ o.after, Region.binds .any e = true ∧ (e.on = i ∨ (e.on < j ∧ ((befs l acc).getD e.on 0).testBit i = true))
  | [], acc, pre, hl, h => by
    intro j o i hj hb
    rw [List.append_nil] at hj
    exact h j o i hj hb
  | o0 :: l, acc, pre, hl, h => by
    have := befs_spec l (acc ++ [bmask acc o0]) (pre ++ [o0]) (by simp [hl]) (fun j o i hj hb => by
      by_cases hlt : j < pre.length
      · rw [List.getElem?_append_left hlt] at hj
        have e1 : (acc ++ [bmask acc o0]).getD j 0 = acc.getD j 0 := by
          simp only [List.getD_eq_getElem?_getD]
          rw [List.getElem?_append_left (by omega)]
        rw [e1] at hb
        obtain ⟨e, h1, h2, h3⟩ := h j o i hj hb
        refine ⟨e, h1, h2, h3.imp id fun ⟨h4, h5⟩ => ⟨h4, ?_⟩⟩
        have e2 : (acc ++ [bmask acc o0]).getD e.on 0 = acc.getD e.on 0 := by
          simp only [List.getD_eq_getElem?_getD]
          rw [List.getElem?_append_left (by omega)]
        rw [e2]; exact h5
      · have hj' : j = pre.length := by
          rcases Nat.lt_or_ge j (pre ++ [o0]).length with h' | h'
          · simp at h'; omega
          · rw [List.getElem?_eq_none h'] at hj; cases hj
        subst hj'
        rw [List.getElem?_append_right (Nat.le_refl _), Nat.sub_self] at hj
        obtain rfl := Option.some.inj hj
        have e1 : (acc ++ [bmask acc o0]).getD pre.length 0 = bmask acc o0 := by
          simp only [List.getD_eq_getElem?_getD]
          rw [List.getElem?_append_right (by omega)]
          simp [hl]
        rw [e1] at hb
        obtain ⟨e, h1, h2, h3⟩ := bmask_spec hb
        refine ⟨e, h1, h2, h3.imp id fun h4 => ?_⟩
        have hlt' : e.on < acc.length := by
          rcases Nat.lt_or_ge e.on acc.length with h' | h'
          · exact h'
          · rw [List.getD_eq_getElem?_getD, List.getElem?_eq_none h'] at h4; simp at h4
        refine ⟨by omega, ?_⟩
        have e2 : (acc ++ [bmask acc o0]).getD e.on 0 = acc.getD e.on 0 := by
          simp only [List.getD_eq_getElem?_getD]
          rw [List.getElem?_append_left hlt']
        rw [e2]; exact h4)
    intro j o i hj hb
    have := this j o i (by simpa using hj) hb
    exact this

/-- Edges of what has come up have come up. -/
def EC (ops : Array Oper) (listed : Array Bool) : Prop := ∀ j o, ops[j]? = some o → listed.getD j false = true → ∀ e ∈ o.after, Region.binds .any e = true → listed.getD e.on false = true

theorem ec_bef {ops : Array Oper} {listed : Array Bool} (hE : EC ops listed) : ∀ (n j : Nat), j ≤ n → ∀ o i, ops[j]? = some o → (∀ e ∈ o.after, Region.binds .any e = true → listed.getD e.on false = true) → ((befs ops.toList []).getD j 0).testBit i = true → listed.getD i false = true := by
  have hall := befs_spec ops.toList [] [] rfl (by intro j o i hj; cases hj)
  intro n
  induction n with
  | zero =>
    intro j hj o i ho hed hb
    obtain ⟨e, h1, h2, h3⟩ := hall j o i (by simpa using ho) hb
    rcases h3 with h3 | ⟨h3, _⟩
    · rw [← h3]; exact hed e h1 h2
    · omega
  | succ n ih =>
    intro j hj o i ho hed hb
    obtain ⟨e, h1, h2, h3⟩ := hall j o i (by simpa using ho) hb
    rcases h3 with h3 | ⟨h3, h4⟩
    · rw [← h3]; exact hed e h1 h2
    · have hl := hed e h1 h2
      have hlt : j < ops.size := (Array.getElem?_eq_some_iff.1 ho).1
      have : ops[e.on]? = some ops[e.on] := Array.getElem?_eq_getElem (by omega)
      exact ih e.on (by omega) _ i this (hE e.on _ this hl) h4

/-- The static check: edges lead back; whatever conflicts is ordered. -/
def edgesBack (ops : List Oper) : Bool := go ops 0
where go : List Oper → Nat → Bool
  | [], _ => true
  | o :: l, i => o.after.toList.all (fun e => !Region.binds .any e || decide (e.on < i)) && go l (i + 1)
def ordChk : List Tk → Nat → Nat → Tk → Bool
  | [], _, _, _ => true
  | x :: l, i, b, y => (!cf x y || b.testBit i) && ordChk l (i + 1) b y
def ordGo : List Tk → List Nat → List Tk → Bool
  | [], _, _ => true
  | y :: l, bs, pre => ordChk pre 0 (bs.headD 0) y && ordGo l bs.tail (pre ++ [y])
def ordOk (bs : List Nat) (tks : List Tk) : Bool := ordGo tks bs []

theorem edgesBack_spec : ∀ {l : List Oper} {i : Nat}, edgesBack.go l i = true → ∀ j o, l[j]? = some o → ∀ e ∈ o.after, Region.binds .any e = true → e.on < i + j
  | [], i, h, j, o, hj => by cases hj
  | o :: l, i, h, j, o', hj => by
    simp only [edgesBack.go, Bool.and_eq_true] at h
    cases j with
    | zero =>
      obtain rfl := Option.some.inj hj
      intro e he hb
      have := List.all_eq_true.1 h.1 e (Array.mem_toList_iff.2 he)
      rw [hb] at this
      simpa using this
    | succ j =>
      intro e he hb
      have := edgesBack_spec h.2 j o' (by simpa using hj) e he hb
      omega
theorem ordChk_spec : ∀ {l : List Tk} {k b : Nat} {y : Tk}, ordChk l k b y = true → ∀ i x, l[i]? = some x → cf x y = true → b.testBit (k + i) = true
  | [], k, b, y, h, i, x, hx => by cases hx
  | x :: l, k, b, y, h, i, x', hx => by
    simp only [ordChk, Bool.and_eq_true, Bool.or_eq_true, Bool.not_eq_true'] at h
    cases i with
    | zero =>
      obtain rfl := Option.some.inj hx
      intro hc
      exact h.1.resolve_left (by rw [hc]; simp)
    | succ i =>
      intro hc
      have := ordChk_spec h.2 i x' (by simpa using hx) hc
      rwa [show k + (i + 1) = k + 1 + i by omega]
theorem ordOk_spec : ∀ {l : List Tk} {bs : List Nat} {pre : List Tk}, ordGo l bs pre = true → ∀ j y, l[j]? = some y → ∀ i x, i < pre.length + j → (pre ++ l)[i]? = some x → cf x y = true → (bs.getD j 0).testBit i = true
  | [], bs, pre, h, j, y, hj => by cases hj
  | y0 :: l, bs, pre, h, j, y, hj => by
    simp only [ordGo, Bool.and_eq_true] at h
    intro i x hi hx hc
    cases j with
    | zero =>
      obtain rfl := Option.some.inj hj
      rw [List.getElem?_append_left (by omega)] at hx
      have := ordChk_spec h.1 i x hx hc
      rw [Nat.zero_add] at this
      cases bs with
      | nil => simp at this
      | cons _ _ => simpa using this
    | succ j =>
      have := ordOk_spec h.2 j y (by simpa using hj) i x (by simp; omega) (by simpa using hx) hc
      cases bs with
      | nil => simp at this
      | cons _ _ => simpa using this

theorem cf_of {x y : Tk} : (∀ t, x.wt t = true → y.tt t = true → cf x y = true) ∧ (∀ r, x.wr r = true → y.tR r = true → cf x y = true) ∧ (∀ t, y.wt t = true → x.tt t = true → cf x y = true) ∧ (∀ r, y.wr r = true → x.tR r = true → cf x y = true) := by
  have h1 : ∀ (x y : Tk) t, x.wt t = true → y.tt t = true → cf1 x y = true := by
    intro x y t h h'
    unfold Tk.wt at h
    unfold cf1
    have : x.tw = some t := eq_of_beq h
    rw [this]
    simp [h']
  have h2 : ∀ (x y : Tk) r, x.wr r = true → y.tR r = true → cf1 x y = true := by
    intro x y r h h'
    unfold Tk.wr at h
    unfold cf1
    rw [Bool.or_eq_true]
    right
    rw [List.any_eq_true]
    exact ⟨r, by simpa using h, h'⟩
  unfold cf
  exact ⟨fun t a b => by rw [h1 x y t a b]; rfl, fun t a b => by rw [h2 x y t a b]; rfl, fun t a b => by rw [h1 y x t a b, Bool.or_true], fun t a b => by rw [h2 y x t a b, Bool.or_true]⟩

/-- All of a region: each operation's doing, what it touches; the states in the order of the text. -/
structure Plan (P : Program) (ops : Array Oper) (cx : Cx) (g0 : G) (ds : List GD) (tks : List Tk) : Prop where
  len : ds.length = ops.size
  tlen : tks.length = ops.size
  loc : ∀ (i : Nat) (o : Oper) (δ : GD) (tk : Tk), ops[i]? = some o → ds[i]? = some δ → tks[i]? = some tk → OpLoc P ops cx o δ tk (gS g0 (fun j => decide (j < i)) ds 0)
  dst : ∀ (i : Nat) (δ : GD) (tk : Tk), ds[i]? = some δ → tks[i]? = some tk → tk.tw = δ.dst ∧ ∀ r, look r δ.ru ≠ none → tk.wr r = true
  back : edgesBack ops.toList = true
  ord : ordOk (befs ops.toList []) tks = true

theorem getD_lt {l : Array Bool} {i : Nat} (h : l.getD i false = true) : i < l.size := by
  rcases Nat.lt_or_ge i l.size with h' | h'
  · exact h'
  · simp [Array.getD, Nat.not_lt.2 h'] at h

theorem plan_any {P : Program} {ops : Array Oper} {cx : Cx} {g0 : G} {ds : List GD} {tks : List Tk} (hp : Plan P ops cx g0 ds tks) {Q : Exit → Act → World → Prop} (hQ : ∀ a w, GSat cx (gS g0 (fun _ => true) ds 0) a w → Q .normal a w) :
    ∀ (fuel : Nat) (listed : Array Bool) (a : Act) (w : World), listed.size = ops.size → EC ops listed → ops.size ≤ fuel + (listed.toList.filter id).length → GSat cx (gS g0 (fun j => listed.getD j false) ds 0) a w → wpAny P .any ops Q fuel listed a w := by
  have fin : ∀ listed : Array Bool, listed.size = ops.size → EC ops listed → Region.ready .any ops listed = [] → ∀ j, j < ops.size → listed.getD j false = true := by
    intro listed hsz hE hr j
    induction j using Nat.strongRecOn with
    | _ j ih =>
      intro hj
      cases hl : listed.getD j false with
      | true => rfl
      | false =>
        have : j ∈ Region.ready .any ops listed := mem_ready.2 ⟨by simp [Array.getD, show j < listed.size by omega] at hl ⊢; exact hl, ops[j], Array.getElem?_eq_getElem hj, fun e he hb => by
          have := edgesBack_spec hp.back j ops[j] (by simp [hj]) e he hb
          exact ih e.on (by omega) (by omega)⟩
        rw [hr] at this; cases this
  have done_ : ∀ (listed : Array Bool) (a : Act) (w : World), listed.size = ops.size → EC ops listed → Region.ready .any ops listed = [] → GSat cx (gS g0 (fun j => listed.getD j false) ds 0) a w → Q .normal a w := by
    intro listed a w hsz hE hr hg
    refine hQ a w ?_
    have hall := fin listed hsz hE hr
    have : gS g0 (fun j => listed.getD j false) ds 0 = gS g0 (fun _ => true) ds 0 := by
      have e1 : ∀ q, (gS g0 (fun j => listed.getD j false) ds 0).tm q = (gS g0 (fun _ => true) ds 0).tm q := fun q => gS_tm q ds 0 g0 g0 _ _ rfl fun j δ hj _ => by
        rw [Nat.zero_add]
        exact hall j (by rw [← hp.len]; exact (List.getElem?_eq_some_iff.1 hj).1)
      have e2 : ∀ r, (gS g0 (fun j => listed.getD j false) ds 0).rt r = (gS g0 (fun _ => true) ds 0).rt r := fun r => gS_rt r ds 0 g0 g0 _ _ rfl fun j δ hj _ => by
        rw [Nat.zero_add]
        exact hall j (by rw [← hp.len]; exact (List.getElem?_eq_some_iff.1 hj).1)
      cases h1 : gS g0 (fun j => listed.getD j false) ds 0
      cases h2 : gS g0 (fun _ => true) ds 0
      rw [h1, h2] at e1 e2
      congr
      · exact funext e1
      · exact funext e2
    rw [← this]; exact hg
  intro fuel
  induction fuel with
  | zero =>
    intro listed a w hsz hE hf hg
    have hr : Region.ready .any ops listed = [] := by
      have hlen : (listed.toList.filter id).length = listed.toList.length := Nat.le_antisymm (List.length_filter_le ..) (by rw [Array.length_toList]; omega)
      rw [List.length_filter_eq_length_iff] at hlen
      apply List.eq_nil_iff_forall_not_mem.2
      intro j hj
      obtain ⟨h0, o, ho, _⟩ := mem_ready.1 hj
      have hlt : j < listed.size := by rw [hsz]; exact (Array.getElem?_eq_some_iff.1 ho).1
      have := hlen (listed[j]) (by simp)
      simp [Array.getD, hlt] at h0 this
      rw [h0] at this; cases this
    exact ⟨hr, done_ listed a w hsz hE hr hg⟩
  | succ fuel ih =>
    intro listed a w hsz hE hf hg
    refine ⟨fun hr => done_ listed a w hsz hE hr hg, fun i hi => ?_⟩
    obtain ⟨h0, o, ho, hed⟩ := mem_ready.1 hi
    have hlt : i < ops.size := (Array.getElem?_eq_some_iff.1 ho).1
    have hli : listed.getD i false = false := by simp [Array.getD, show i < listed.size by omega] at h0 ⊢; exact h0
    obtain ⟨δ, hδ⟩ : ∃ δ, ds[i]? = some δ := ⟨_, List.getElem?_eq_getElem (by rw [hp.len]; exact hlt)⟩
    obtain ⟨tk, htk⟩ : ∃ tk, tks[i]? = some tk := ⟨_, List.getElem?_eq_getElem (by rw [hp.tlen]; exact hlt)⟩
    have tkOf : ∀ j δ', ds[j]? = some δ' → ∃ tk', tks[j]? = some tk' := fun j δ' hj => ⟨_, List.getElem?_eq_getElem (by rw [hp.tlen, ← hp.len]; exact (List.getElem?_eq_some_iff.1 hj).1)⟩
    -- what conflicts has come up just if it stands ahead
    have key : ∀ j δ' tk', ds[j]? = some δ' → tks[j]? = some tk' → (cf tk' tk = true ∨ cf tk tk' = true) → j ≠ i → listed.getD j false = decide (j < i) := by
      intro j δ' tk' hj htj hc hne
      have hjlt : j < ops.size := by rw [← hp.len]; exact (List.getElem?_eq_some_iff.1 hj).1
      have hcs : cf tk' tk = cf tk tk' := by unfold cf; rw [Bool.or_comm]
      rcases Nat.lt_or_gt_of_ne hne with hlt' | hgt
      · have hb := ordOk_spec hp.ord i tk htk j tk' (by simpa using hlt') (by simpa using htj) (by rcases hc with hc | hc; exact hc; rw [hcs]; exact hc)
        have := ec_bef hE i i (Nat.le_refl _) o j ho hed hb
        rw [this]; simp [hlt']
      · have hb := ordOk_spec hp.ord j tk' htj i tk (by simpa using hgt) (by simpa using htk) (by rcases hc with hc | hc; rw [← hcs]; exact hc; exact hc)
        have : listed.getD j false = false := by
          cases hl : listed.getD j false with
          | false => rfl
          | true =>
            have hoj : ops[j]? = some ops[j] := Array.getElem?_eq_getElem hjlt
            have := ec_bef hE j j (Nat.le_refl _) _ i hoj (hE j _ hoj hl) hb
            rw [hli] at this; cases this
        rw [this]
        have : ¬ j < i := by omega
        simp [this]
    have hcf := fun (x y : Tk) => @cf_of x y
    have hag : AgreeT (gS g0 (fun j => listed.getD j false) ds 0) (gS g0 (fun j => decide (j < i)) ds 0) tk := by
      refine ⟨fun t ht c => gS_tm (t, c) ds 0 g0 g0 _ _ rfl fun j δ' hj hd => ?_, fun r hr => gS_rt r ds 0 g0 g0 _ _ rfl fun j δ' hj hd => ?_⟩
      · rw [Nat.zero_add]
        by_cases hne : j = i
        · subst hne; rw [hli]; simp
        · obtain ⟨tk', htj⟩ := tkOf j δ' hj
          refine key j δ' tk' hj htj (.inl ((hcf tk' tk).1 t ?_ ?_)) hne
          · unfold Tk.wt; rw [(hp.dst j δ' tk' hj htj).1, ← hd]; simp
          · unfold Tk.tt; simp [ht]
      · rw [Nat.zero_add]
        by_cases hne : j = i
        · subst hne; rw [hli]; simp
        · obtain ⟨tk', htj⟩ := tkOf j δ' hj
          refine key j δ' tk' hj htj (.inl ((hcf tk' tk).2.1 r ((hp.dst j δ' tk' hj htj).2 r hd) ?_)) hne
          unfold Tk.tR; simp [hr]
    -- the next state
    have hnext : gS g0 (fun j => (listed.setIfInBounds i true).getD j false) ds 0 = (gS g0 (fun j => listed.getD j false) ds 0).app δ := by
      have e0 : (fun j => (listed.setIfInBounds i true).getD j false) = fun j => listed.getD j false || j == 0 + i := by
        funext j
        by_cases hji : j = i
        · subst hji
          simp [Array.getD, show j < listed.size by omega]
        · rw [getD_set_ne false (Ne.symm hji)]
          simp [hji]
      rw [e0]
      have e1 : ∀ q, (gS g0 (fun j => listed.getD j false || j == 0 + i) ds 0).tm q = ((gS g0 (fun j => listed.getD j false) ds 0).app δ).tm q := fun q => gS_add_tm q ds 0 g0 (fun j => listed.getD j false) hδ (by simpa using hli) fun j δ' hj hgt hs hd hd' => by
        obtain ⟨tk', htj⟩ := tkOf j δ' hj
        have := key j δ' tk' hj htj (.inr ((hcf tk tk').1 q.1 (by unfold Tk.wt; rw [(hp.dst i δ tk hδ htk).1, ← hd']; simp) (by unfold Tk.tt; rw [(hp.dst j δ' tk' hj htj).1, ← hd]; simp))) (by omega)
        rw [Nat.zero_add] at hs
        rw [hs] at this
        simp at this
        omega
      have e2 : ∀ r, (gS g0 (fun j => listed.getD j false || j == 0 + i) ds 0).rt r = ((gS g0 (fun j => listed.getD j false) ds 0).app δ).rt r := fun r => gS_add_rt r ds 0 g0 (fun j => listed.getD j false) hδ (by simpa using hli) fun j δ' hj hgt hs hd hd' => by
        obtain ⟨tk', htj⟩ := tkOf j δ' hj
        have := key j δ' tk' hj htj (.inr ((hcf tk tk').2.1 r ((hp.dst i δ tk hδ htk).2 r hd') (by unfold Tk.tR; rw [Bool.or_eq_true]; right; exact (hp.dst j δ' tk' hj htj).2 r hd))) (by omega)
        rw [Nat.zero_add] at hs
        rw [hs] at this
        simp at this
        omega
      cases h1 : gS g0 (fun j => listed.getD j false || j == 0 + i) ds 0
      cases h2 : (gS g0 (fun j => listed.getD j false) ds 0).app δ
      rw [h1, h2] at e1 e2
      congr
      · exact funext e1
      · exact funext e2
    have hstep := hp.loc i o δ tk ho hδ htk _ hag a w hg
    have hEC' : EC ops (listed.setIfInBounds i true) := by
      intro j oj hj hlj e he hb
      by_cases hji : j = i
      · subst hji
        rw [ho] at hj
        obtain rfl := Option.some.inj hj
        exact getD_set_true (hed e he hb)
      · rw [getD_set_ne false (Ne.symm hji)] at hlj
        exact getD_set_true (hE j oj hj hlj e he hb)
    have hcount : ops.size ≤ fuel + ((listed.setIfInBounds i true).toList.filter id).length := by
      have : ((listed.setIfInBounds i true).toList.filter id).length = (listed.toList.filter id).length + 1 := by
        rw [Array.toList_setIfInBounds]
        have hi' : i < listed.toList.length := by rw [Array.length_toList]; omega
        have hv : listed.toList[i] = false := by simp [Array.getD, show i < listed.size by omega] at h0 ⊢; exact h0
        rw [List.set_eq_take_append_cons_drop, if_pos hi', List.filter_append, List.length_append]
        conv => rhs; rw [← List.take_append_drop i listed.toList, List.filter_append, List.length_append, List.drop_eq_getElem_cons hi', hv]
        simp
        omega
      omega
    unfold wpOp
    simp only [ho]
    split
    · rename_i hw
      rw [if_pos hw] at hstep
      refine .inl (Oper.wp_mono (fun a' w' h => ?_) (hstep Q))
      refine ih (listed.setIfInBounds i true) a' w' (by simp [hsz]) hEC' hcount ?_
      rw [hnext]; exact h
    · rename_i hw
      rw [if_neg hw] at hstep
      refine ih (listed.setIfInBounds i true) _ w (by simp [hsz]) hEC' hcount ?_
      rw [hnext]; exact hstep
end Go.Lift

namespace Go.Lift
set_option linter.unusedVariables false
set_option linter.unusedSimpArgs false

/-- What is known: the callees, and the kinds of types for which another kind than the plain one is wanted. -/
structure Tab (P : Program) where
  fs : List (FuncId × Spec)
  ks : List (TypeId × Kt) := []
  tk : List Tmp := []
  pf : List (PfSpec P) := []
instance {P : Program} : Coe (List (FuncId × Spec)) (Tab P) := ⟨fun l => ⟨l, [], [], []⟩⟩
/-- This load takes what it loads. -/
def Tab.takes {P : Program} (tab : Tab P) (o : Oper) : Bool := match o.dst with
  | some t => tab.tk.contains t
  | none => false
/-- A kind of one cell that may stand in a map. -/
def scB : Kt → Bool
  | .int _ => true
  | .bool => true
  | .str => true
  | _ => false
/-- The kind of a type. -/
def kindOf (P : Program) (ks : List (TypeId × Kt)) : Nat → TypeId → Option Kt
  | 0, _ => none
  | n + 1, t => match look t ks with
    | some k => some k
    | none => match P.underlying t with
      | some (.int k) => some (.int k)
      | some .bool => some .bool
      | some .string => some .str
      | some (.slice e) => (kindOf P ks n e).map (.sl e)
      | some (.array m e) => (kindOf P ks n e).map (.arr m)
      | some (.pointer e) => match bldOf P e with
        | some b => some (.bld e b)
        | none => (kindOf P ks n e).map (.ptr e)
      | some (.interface _) => some .unk
      | some (.map a b) => match kindOf P ks n a, kindOf P ks n b with
        | some a, some b => if scB a && scB b then some (.map a b) else none
        | _, _ => none
      | some (.struct fs) => fs.toList.foldr (fun f acc => match kindOf P ks n f.type, acc with | some k, some a => some (.pair k a) | _, _ => none) (some .unit)
      | _ => none

inductive Stp (E : Type) : Type 1
  | pure (r : OR E)
  | call (r : OC E)

section
variable {E : Type}

def elK (P : Program) (ks : List (TypeId × Kt)) (t : TypeId) : Option (TypeId × Kt) := match P.underlying t with
  | some (.slice e) => (kindOf P ks 12 e).map fun k => (e, k)
  | _ => none

/-- What an operation yields is handed to calls, and to nothing else. -/
def onlyArgs (ops : Array Oper) (o : Oper) : Bool := match o.dst with
  | some t => ops.toList.all (fun o' => if o'.op.operands.toList.any (fun | .tmp t' => t' == t | _ => false) then (match o'.op with | .call ⟨.value (.func _), _, _⟩ => true | _ => false) else true)
  | none => false
/-- Of a type windows are wanted. -/
def winT (P : Program) (ks : List (TypeId × Kt)) (t : TypeId) : Bool := match kindOf P ks 12 t with
  | some (.win _) => true
  | _ => false
def wn (b : Bool) (r : OR E) : OR E := if b then asWin r else r
theorem snd_wn {P : Program} {o : Oper} {s : Lst E} {gs : Gs} {b : Bool} {r : OR E} (h : Snd P o s gs r) : Snd P o s gs (wn b r) := by
  unfold wn
  split
  · exact snd_asWin h
  · exact h
def c_appW (P : Program) (b : Bool) (s : Lst E) (gs : Gs) (t t2 : TypeId) (x y : Operand) (kn : Option (TypeId × Kt)) : Option (OR E) :=
  (withT x gs (withW x gs fun s => c_app2 P s gs t t2 x y kn) s).map (wn b)
theorem snd_appW {P : Program} {o : Oper} {s : Lst E} {gs : Gs} {b : Bool} {t t2 : TypeId} {x y : Operand} {kn : Option (TypeId × Kt)} {r : OR E} (ho : o.op = .call { callee := .builtin .append, args := #[x, y], argTypes := #[t, t2] }) (h : c_appW P b s gs t t2 x y kn = some r) : Snd P o s gs r := by
  unfold c_appW at h
  obtain ⟨q, hq, rfl⟩ := Option.map_eq_some_iff.1 h
  have mx : x ∈ o.op.operands := by simp [ho, Op.operands, Call.operands]
  exact snd_wn (snd_withT (fun s r hr => snd_withW (fun s r hr => snd_app2 ho hr) mx hr) mx hq)
def c_len2 (P : Program) (s : Lst E) (gs : Gs) (t : TypeId) (x : Operand) : Option (OR E) := match c_len P s gs t x with
  | some r => some r
  | none => c_lenW P s gs t x
theorem snd_len2 {P : Program} {o : Oper} {s : Lst E} {gs : Gs} {t : TypeId} {x : Operand} {r : OR E} (ho : o.op = .call { callee := .builtin .len, args := #[x], argTypes := #[t] }) (h : c_len2 P s gs t x = some r) : Snd P o s gs r := by
  unfold c_len2 at h
  split at h
  · rename_i q hq
    obtain rfl := Option.some.inj h
    exact snd_len ho hq
  · exact snd_lenW ho h
def c_index2 (P : Program) (s : Lst E) (gs : Gs) (t : TypeId) (x y : Operand) : Option (OR E) := match c_index P s gs t x y with
  | some r => some r
  | none => c_indexW P s gs t x y
theorem snd_index2 {P : Program} {o : Oper} {s : Lst E} {gs : Gs} {t : TypeId} {x y : Operand} {r : OR E} (ho : o.op = .indexAddr t x y) (h : c_index2 P s gs t x y = some r) : Snd P o s gs r := by
  unfold c_index2 at h
  split at h
  · rename_i q hq
    obtain rfl := Option.some.inj h
    exact snd_index ho hq
  · exact snd_indexW ho h
def c_bin4 (P : Program) (s : Lst E) (gs : Gs) (op : BinOp) (t : TypeId) (k : Option Kt) (x y : Operand) : Option (OR E) := match c_bin3 P s gs op t k x y with
  | some r => some r
  | none => match c_binA s gs op x y with
    | some r => some r
    | none => c_eqN P s gs op t x y
theorem snd_bin4 {P : Program} {o : Oper} {s : Lst E} {gs : Gs} {op : BinOp} {t t' : TypeId} {k : Option Kt} {x y : Operand} {r : OR E} (ho : o.op = .binOp op t x y t') (h : c_bin4 P s gs op t k x y = some r) : Snd P o s gs r := by
  unfold c_bin4 at h
  split at h
  · rename_i q hq
    obtain rfl := Option.some.inj h
    exact snd_bin3 ho hq
  · split at h
    · rename_i q hq
      obtain rfl := Option.some.inj h
      exact snd_binA ho hq
    · exact snd_eqN ho h
def c_cut (P : Program) (b : Bool) (s : Lst E) (gs : Gs) (t : TypeId) (x : Operand) (lo hi : Option Operand) : Option (OR E) := match b, lo, hi with
  | true, none, some hi => c_sliceW P s gs t x hi
  | _, lo, hi => c_slice P s gs t x lo hi
theorem snd_cut {P : Program} {o : Oper} {s : Lst E} {gs : Gs} {b : Bool} {t : TypeId} {x : Operand} {lo hi : Option Operand} {r : OR E} (ho : o.op = .slice t x lo hi none) (h : c_cut P b s gs t x lo hi = some r) : Snd P o s gs r := by
  unfold c_cut at h
  split at h
  · exact snd_sliceW ho h
  · exact snd_slice ho h
def c_op (P : Program) (tab : Tab P) (vw : Bool) (s : Lst E) (gs : Gs) (o : Oper) : Option (Stp E) := match o.op with
  | .move x => (c_mv s gs x).map .pure
  | .assign x => (c_mv s gs x).map .pure
  | .pick c a b => (c_pick s gs c a b).map .pure
  | .alloc T => match bldOf P T with
    | some e => (c_allocB P s T e).map .pure
    | none => (kindOf P tab.ks 12 T).bind fun k => (c_alloc P s T k).map .pure
  | .nilCheck x => (c_nil P s gs x).map .pure
  | .makeFunc (.func f) ⟨[]⟩ ⟨xs⟩ => (c_mkfn s gs f xs).map .pure
  | .box T x => (if tab.takes o then c_boxV s gs T x else c_box2 s gs T x).map .pure
  | .buildSlice t n parts => (elK P tab.ks t).bind fun k => (c_bsl P s gs t n parts k.2).map .pure
  | .build t parts => (kindOf P tab.ks 12 t).bind fun k => (c_build2 P s gs t k parts).map .pure
  | .load t x => (match c_loadO P s gs (tab.takes o) t x with | some r => some r | none => match c_loadP P s gs t x with | some r => some r | none => c_ld P s gs vw t x).map .pure
  | .store t x y => match o.dst with | none => (match c_storeO P s gs t x y with | some r => some r | none => c_store P s gs t x y).map .pure | some _ => none
  | .binOp op t x y _ => (c_bin4 P s gs op t (kindOf P tab.ks 12 t) x y).map .pure
  | .unOp op _ x => (c_un s gs op x).map .pure
  | .convert a b x => (c_conv P s gs a b x).map .pure
  | .makeSlice t l c => (elK P tab.ks t).bind fun k => (c_makeSlice P s gs t l c k.2).map fun r => .pure (wn (winT P tab.ks t) r)
  | .makeInterface T x => (c_mkI P s gs T x).map .pure
  | .slice t x none none none => (match c_sliceA P s gs t x with | some r => some r | none => c_slice P s gs t x none none).map .pure
  | .slice t x lo hi none => (c_cut P (winT P tab.ks t) s gs t x lo hi).map .pure
  | .slice t x none (some hi) (some mx) => (c_slice3 P s gs t x hi mx).map .pure
  | .fieldAddr t x i => (c_field P s gs t x i).map .pure
  | .indexAddr t x y => (c_index2 P s gs t x y).map .pure
  | .index t x y => (c_at P s gs t x y).map .pure
  | .extract x i => (c_extract s gs x i).map .pure
  | .makeMap t none => (kindOf P tab.ks 12 t).bind fun k => (c_mkMap s k).map .pure
  | .lookup t x y ok => (match c_look P s gs t x y ok with | some r => some r | none => c_lookS P s gs t x y ok).map .pure
  | .mapUpdate t x y z => match o.dst with | none => (c_mup P s gs t x y z).map .pure | some _ => none
  | .call ⟨.builtin .len, ⟨[x]⟩, ⟨[t]⟩⟩ => (match c_len2 P s gs t x with | some r => some r | none => match c_lenM P s gs t x with | some r => some r | none => c_lenS P s gs t x).map .pure
  | .call ⟨.builtin .delete, ⟨[x, y]⟩, ⟨[t, t2]⟩⟩ => (c_del P s gs t x y).map .pure
  | .call ⟨.builtin .cap, ⟨[x]⟩, ⟨[t]⟩⟩ => (c_cap P s gs t x).map .pure
  | .call ⟨.builtin .append, ⟨[x, y]⟩, ⟨[t, t2]⟩⟩ => (c_appW P (winT P tab.ks t) s gs t t2 x y (elK P tab.ks t)).map .pure
  | .call ⟨.builtin .max, ⟨xs⟩, _⟩ => (c_mm s gs .max xs).map .pure
  | .call ⟨.builtin .min, ⟨xs⟩, _⟩ => (c_mm s gs .min xs).map .pure
  | .call ⟨.value (.func f), ⟨xs⟩, _⟩ => match c_pcall P tab.pf s gs f xs with
    | some r => some (.pure r)
    | none => (match c_call P tab.fs s gs f xs with
      | some r => some r
      | none => match c_callP P tab.fs s gs f xs with
        | some r => some r
        | none => c_callN P tab.fs s gs f xs).map .call
  | .call ⟨.value (.tmp t), ⟨xs⟩, _⟩ => (c_callW P tab.fs s gs t xs).map .call
  | _ => none

theorem map_pure {α : Type} {x : Option (OR E)} {r : Stp E} (h : x.map Stp.pure = some r) : ∃ q, x = some q ∧ r = .pure q := by
  cases x with
  | none => cases h
  | some q => exact ⟨q, rfl, (Option.some.inj h).symm⟩

def StpOk (P : Program) (Gl : World → Prop) (o : Oper) (s : Lst E) (gs : Gs) : Stp E → Prop
  | .pure r => Snd P o s gs r
  | .call r => SndC P Gl o s gs r

theorem c_op_ok {P : Program} {Gl : World → Prop} {tab : Tab P} (htab : ∀ f sp, (f, sp) ∈ tab.fs → FnOk P Gl f sp) {vw : Bool} {s : Lst E} {gs : Gs} {o : Oper} {r : Stp E} (h : c_op P tab vw s gs o = some r) : StpOk P Gl o s gs r := by
  unfold c_op at h
  split at h
  · rename_i ho
    obtain ⟨q, hq, rfl⟩ := Option.map_eq_some_iff.1 h
    exact snd_mv (.inl ho) hq
  · rename_i ho
    obtain ⟨q, hq, rfl⟩ := Option.map_eq_some_iff.1 h
    exact snd_mv (.inr ho) hq
  · rename_i ho
    obtain ⟨q, hq, rfl⟩ := Option.map_eq_some_iff.1 h
    exact snd_pick ho hq
  · rename_i ho
    split at h
    · obtain ⟨q, hq, rfl⟩ := Option.map_eq_some_iff.1 h
      exact snd_allocB ho hq
    · obtain ⟨k, hk, h⟩ := Option.bind_eq_some_iff.1 h
      obtain ⟨q, hq, rfl⟩ := Option.map_eq_some_iff.1 h
      exact snd_alloc ho hq
  · rename_i ho
    obtain ⟨q, hq, rfl⟩ := Option.map_eq_some_iff.1 h
    exact snd_nil ho hq
  · rename_i ho
    obtain ⟨q, hq, rfl⟩ := Option.map_eq_some_iff.1 h
    exact snd_mkfn ho hq
  · rename_i ho
    obtain ⟨q, hq, rfl⟩ := Option.map_eq_some_iff.1 h
    split at hq
    · exact snd_boxV ho hq
    · exact snd_box2 ho hq
  · rename_i ho
    obtain ⟨k, hk, h⟩ := Option.bind_eq_some_iff.1 h
    obtain ⟨q, hq, rfl⟩ := Option.map_eq_some_iff.1 h
    exact snd_bsl ho hq
  · rename_i ho
    obtain ⟨k, hk, h⟩ := Option.bind_eq_some_iff.1 h
    obtain ⟨q, hq, rfl⟩ := Option.map_eq_some_iff.1 h
    exact snd_build2 ho hq
  · rename_i ho
    obtain ⟨q, hq, rfl⟩ := Option.map_eq_some_iff.1 h
    split at hq
    · rename_i r hr
      obtain rfl := Option.some.inj hq
      exact snd_loadO ho hr
    · split at hq
      · rename_i r hr
        obtain rfl := Option.some.inj hq
        exact snd_loadP ho hr
      · exact snd_ld ho hq
  · rename_i ho
    split at h
    · rename_i hd
      obtain ⟨q, hq, rfl⟩ := Option.map_eq_some_iff.1 h
      split at hq
      · rename_i r hr
        obtain rfl := Option.some.inj hq
        exact snd_storeO ho hd hr
      · exact snd_store ho hd hq
    · cases h
  · rename_i ho
    obtain ⟨q, hq, rfl⟩ := Option.map_eq_some_iff.1 h
    exact snd_bin4 ho hq
  · rename_i ho
    obtain ⟨q, hq, rfl⟩ := Option.map_eq_some_iff.1 h
    exact snd_un ho hq
  · rename_i ho
    obtain ⟨q, hq, rfl⟩ := Option.map_eq_some_iff.1 h
    exact snd_conv ho hq
  · rename_i ho
    obtain ⟨k, hk, h⟩ := Option.bind_eq_some_iff.1 h
    obtain ⟨q, hq, rfl⟩ := Option.map_eq_some_iff.1 h
    exact snd_wn (snd_makeSlice ho hq)
  · rename_i ho
    obtain ⟨q, hq, rfl⟩ := Option.map_eq_some_iff.1 h
    exact snd_mkI ho hq
  · rename_i ho
    obtain ⟨q, hq, rfl⟩ := Option.map_eq_some_iff.1 h
    split at hq
    · rename_i r hr
      obtain rfl := Option.some.inj hq
      exact snd_sliceA ho hr
    · exact snd_slice ho hq
  · rename_i ho
    obtain ⟨q, hq, rfl⟩ := Option.map_eq_some_iff.1 h
    exact snd_cut ho hq
  · rename_i ho
    obtain ⟨q, hq, rfl⟩ := Option.map_eq_some_iff.1 h
    exact snd_slice3 ho hq
  · rename_i ho
    obtain ⟨q, hq, rfl⟩ := Option.map_eq_some_iff.1 h
    exact snd_field ho hq
  · rename_i ho
    obtain ⟨q, hq, rfl⟩ := Option.map_eq_some_iff.1 h
    exact snd_index2 ho hq
  · rename_i ho
    obtain ⟨q, hq, rfl⟩ := Option.map_eq_some_iff.1 h
    exact snd_at ho hq
  · rename_i ho
    obtain ⟨q, hq, rfl⟩ := Option.map_eq_some_iff.1 h
    exact snd_extract ho hq
  · rename_i ho
    obtain ⟨k, hk, h⟩ := Option.bind_eq_some_iff.1 h
    obtain ⟨q, hq, rfl⟩ := Option.map_eq_some_iff.1 h
    exact snd_mkMap ho hq
  · rename_i ho
    obtain ⟨q, hq, rfl⟩ := Option.map_eq_some_iff.1 h
    split at hq
    · rename_i r hr
      obtain rfl := Option.some.inj hq
      exact snd_look ho hr
    · exact snd_lookS ho hq
  · rename_i ho
    split at h
    · rename_i hd
      obtain ⟨q, hq, rfl⟩ := Option.map_eq_some_iff.1 h
      exact snd_mup ho hd hq
    · cases h
  · rename_i ho
    obtain ⟨q, hq, rfl⟩ := Option.map_eq_some_iff.1 h
    split at hq
    · rename_i r hr
      obtain rfl := Option.some.inj hq
      exact snd_len2 ho hr
    · split at hq
      · rename_i r hr
        obtain rfl := Option.some.inj hq
        exact snd_lenM ho hr
      · exact snd_lenS ho hq
  · rename_i ho
    obtain ⟨q, hq, rfl⟩ := Option.map_eq_some_iff.1 h
    exact snd_del ho hq
  · rename_i ho
    obtain ⟨q, hq, rfl⟩ := Option.map_eq_some_iff.1 h
    exact snd_cap ho hq
  · rename_i ho
    obtain ⟨q, hq, rfl⟩ := Option.map_eq_some_iff.1 h
    exact snd_appW ho hq
  · rename_i ho
    obtain ⟨q, hq, rfl⟩ := Option.map_eq_some_iff.1 h
    exact snd_mm ho hq
  · rename_i ho
    obtain ⟨q, hq, rfl⟩ := Option.map_eq_some_iff.1 h
    exact snd_mm ho hq
  · rename_i ho
    split at h
    · rename_i r hr
      obtain rfl := Option.some.inj h
      exact snd_pcall ho hr
    · obtain ⟨q, hq, rfl⟩ := Option.map_eq_some_iff.1 h
      split at hq
      · rename_i r hr
        obtain rfl := Option.some.inj hq
        exact snd_call htab ho hr
      · split at hq
        · rename_i r hr
          obtain rfl := Option.some.inj hq
          exact snd_callP htab ho hr
        · exact snd_callN htab ho hq
  · rename_i ho
    obtain ⟨q, hq, rfl⟩ := Option.map_eq_some_iff.1 h
    exact snd_callW htab ho hq
  · cases h

theorem c_op_mv {P : Program} {tab : Tab P} {vw : Bool} {s : Lst E} {gs : Gs} {o : Oper} {r : OR E} (hm : isMv o = true) (h : c_op P tab vw s gs o = some (.pure r)) : ∃ x, (o.op = .move x ∨ o.op = .assign x) ∧ c_mv s gs x = some r := by
  unfold isMv at hm
  split at hm <;> try (cases hm; done)
  · rename_i x hx
    unfold c_op at h
    rw [hx] at h
    obtain ⟨q, hq, h2⟩ := Option.map_eq_some_iff.1 h
    obtain rfl := Stp.pure.inj h2
    exact ⟨x, .inl hx, hq⟩
  · rename_i x hx
    unfold c_op at h
    rw [hx] at h
    obtain ⟨q, hq, h2⟩ := Option.map_eq_some_iff.1 h
    obtain rfl := Stp.pure.inj h2
    exact ⟨x, .inr hx, hq⟩

/-! ### The state behind an operation -/
def Lst.pull {E' : Type} (f : E' → E) (s : Lst E) : Lst E' := ⟨s.tm.map fun q => (q.1, ⟨q.2.gs, q.2.ent.pull f⟩), s.rt.map fun q => (q.1, (q.2.1, q.2.2.map (Root.pull f))), s.nx⟩

theorem look_map {α β γ : Type} [DecidableEq α] (k : α) (f : β → γ) : ∀ l : List (α × β), look k (l.map fun q => (q.1, f q.2)) = (look k l).map f
  | [] => rfl
  | (k', v) :: l => by
    simp only [List.map_cons, look]
    split
    · rfl
    · exact look_map k f l
theorem look_mapK {α β γ : Type} [DecidableEq α] (k : α) (f : α → β → γ) : ∀ l : List (α × β), look k (l.map fun q => (q.1, f q.1 q.2)) = (look k l).map (f k)
  | [] => rfl
  | (k', v) :: l => by
    simp only [List.map_cons, look]
    split
    · rename_i h; subst h; rfl
    · exact look_mapK k f l
theorem look_append {α β : Type} [DecidableEq α] (k : α) : ∀ l l' : List (α × β), look k (l ++ l') = match look k l with | some v => some v | none => look k l'
  | [], l' => rfl
  | (k', v) :: l, l' => by
    simp only [List.cons_append, look]
    split
    · rfl
    · exact look_append k l l'

theorem gval_pull {E' : Type} (f : E' → E) (s : Lst E) (t : Tmp) : (s.pull f).gval t = (s.gval t).map fun x e => x (f e) := by
  unfold Lst.gval Lst.pull
  simp only []
  rw [look_map (t, 0) (fun sl : Slot E => (⟨sl.gs, sl.ent.pull f⟩ : Slot E'))]
  cases look (t, 0) s.tm with
  | none => rfl
  | some sl =>
    obtain ⟨gs, en⟩ := sl
    cases en with
    | val k x => cases k <;> rfl
    | _ => rfl
theorem on_pull {E' : Type} (f : E' → E) (s : Lst E) (gs : Gs) (e : E') : (s.pull f).on gs e = s.on gs (f e) := by
  unfold Lst.on
  congr 1
  funext q
  rw [gval_pull]
  cases s.gval q.1 <;> rfl
theorem gr_pull {E' : Type} (f : E' → E) (s : Lst E) (e : E') : (s.pull f).gr e = s.gr (f e) := by
  unfold Lst.gr
  congr 1
  · funext q
    show (match look q (s.pull f).tm with | some sl => _ | none => _) = _
    unfold Lst.pull
    simp only []
    rw [look_map q (fun sl : Slot E => (⟨sl.gs, sl.ent.pull f⟩ : Slot E'))]
    cases look q s.tm with
    | none => rfl
    | some sl =>
      simp only [Option.map_some]
      rw [Ent.ev_pull]
      have := on_pull f s sl.gs e
      unfold Lst.pull at this
      rw [this]
  · funext r
    show (match look r (s.pull f).rt with | some sl => _ | none => _) = _
    unfold Lst.pull
    simp only []
    rw [look_map r (fun q : Gs × Option (Root E) => (q.1, q.2.map (Root.pull f)))]
    cases look r s.rt with
    | none => rfl
    | some q =>
      simp only [Option.map_some]
      have := on_pull f s q.1 e
      unfold Lst.pull at this
      rw [this]
      split
      · rw [Option.map_map]; rfl
      · rfl

/-- No guard hangs on this slot. -/
def gsFree (d : Option Tmp) (gs : Gs) : Bool := gs.all fun q => !(d == some q.1)
def Lst.free (s : Lst E) (d : Option Tmp) : Bool := s.tm.all (fun q => gsFree d q.2.gs) && s.rt.all fun q => gsFree d q.2.1
/-- A root that is changed under guards: as it was, where they are off. -/
def mergeR (s : Lst E) (gs : Gs) (q : Nat) (R : Option (Root E)) : Gs × Option (Root E) := match gs, look q s.rt, R with
  | g :: l, some ([], some Ro), some R => if h : Ro.k = R.k then ([], some ⟨R.k, R.m, R.hv, fun e => if s.on (g :: l) e then R.x e else h ▸ Ro.x e⟩) else (g :: l, some R)
  | gs, _, R => (gs, R)
def mergeB (s : Lst E) (q : Nat) (R : Option (Root E)) : Bool := match look q s.rt, R with
  | none, _ => true
  | some ([], some Ro), some R => decide (Ro.k = R.k) && decide (Ro.m = R.m) && decide (R.hv = Ro.hv + 1) && R.m.isOw
  | _, _ => false
def Lst.next (s : Lst E) (gs : Gs) (d : Option Tmp) (es : List (Nat × Ent E)) (ru : List (Nat × Option (Root E))) (n : Nat) : Lst E :=
  ⟨(match d with | some d => es.map fun q => ((d, q.1), ⟨gs, q.2⟩) | none => []) ++ s.tm.filter (fun q => !(d == some q.1.1)), ru.map (fun q => (q.1, mergeR s gs q.1 q.2)) ++ s.rt, s.nx + n⟩
/-- What must be so of a step. -/
def Lst.stepOk (s : Lst E) (gs : Gs) (d : Option Tmp) (ru : List (Nat × Option (Root E))) (n : Nat) (nt : Nat × Nat) : Bool :=
  s.free d && gsFree d gs && (gs.isEmpty || ru.all fun q => mergeB s q.1 q.2) && (List.range n).all (fun i => (look (s.nx + i) s.rt).isNone) && (match d with | some t => decide (nt.1 ≤ t) && decide (t < nt.2) | none => true)

def offOf (es : List (Nat × Ent E)) : Nat → Option GEnt := fun i => if i = 0 ∧ (look 0 es).isSome = true then some (.cst undef) else none
def raise : Option GR → Option GR := Option.map (Option.map fun R => ⟨R.k, R.m, R.hv + 1, R.x⟩)
def boOf (s : Lst E) (r : Nat) (x : Option GR) : Option GR := if (look r s.rt).isSome then raise x else x
def gdOf (s : Lst E) (gs : Gs) (d : Option Tmp) (es : List (Nat × Ent E)) (ru : List (Nat × Option (Root E))) (e : E) : GD := ⟨s.on gs e, d, evs es e, offOf es, ru.map fun q => (q.1, q.2.map (Root.ev e)), boOf s⟩

theorem look_filter {α β : Type} [DecidableEq α] (k : α) (p : α → Bool) : ∀ l : List (α × β), look k (l.filter fun q => p q.1) = if p k then look k l else none
  | [] => by simp [look]
  | (k', v) :: l => by
    rw [List.filter_cons]
    by_cases hk : k = k'
    · subst hk
      cases hp : p k with
      | true => simp [look]
      | false =>
        have := look_filter k p l
        rw [hp] at this
        simpa [look] using this
    · cases hp : p k' with
      | true => simp only [if_true, look, if_neg hk]; exact look_filter k p l
      | false =>
        simp only [look, if_neg hk]
        exact look_filter k p l

theorem next_gval {s : Lst E} {gs : Gs} {d : Option Tmp} {es : List (Nat × Ent E)} {ru : List (Nat × Option (Root E))} {n : Nat} {t : Tmp} (h : ¬ d = some t) : (s.next gs d es ru n).gval t = s.gval t := by
  unfold Lst.gval Lst.next
  simp only []
  rw [look_append]
  have h1 : look (t, 0) (match d with | some d => es.map fun q => ((d, q.1), (⟨gs, q.2⟩ : Slot E)) | none => []) = none := by
    cases d with
    | none => rfl
    | some d =>
      have hne : ¬ t = d := fun e => h (by rw [e])
      show look (t, 0) (es.map fun q => ((d, q.1), (⟨gs, q.2⟩ : Slot E))) = none
      induction es with
      | nil => rfl
      | cons q es ih =>
        simp only [List.map_cons, look]
        rw [if_neg (fun e => hne (congrArg Prod.fst e))]
        exact ih
  rw [h1]
  simp only []
  have := look_filter (t, 0) (fun q : Nat × Nat => !(d == some q.1)) s.tm
  rw [this]
  have : (!(d == some t)) = true := by simpa using h
  simp [this]
theorem next_on {s : Lst E} {gs gs' : Gs} {d : Option Tmp} {es : List (Nat × Ent E)} {ru : List (Nat × Option (Root E))} {n : Nat} (h : gsFree d gs' = true) (e : E) : (s.next gs d es ru n).on gs' e = s.on gs' e := by
  unfold Lst.on
  unfold gsFree at h
  rw [List.all_eq_true] at h
  have : ∀ q ∈ gs', (s.next gs d es ru n).gval q.1 = s.gval q.1 := fun q hq => next_gval (by have := h q hq; simpa using this)
  clear h
  induction gs' with
  | nil => rfl
  | cons q l ih =>
    simp only [List.all_cons]
    rw [this q (List.mem_cons_self ..), ih fun q' hq' => this q' (List.mem_cons_of_mem _ hq')]

theorem look_es {gs : Gs} {d : Tmp} {i : Nat} : ∀ {es : List (Nat × Ent E)}, look (d, i) (es.map fun q => ((d, q.1), (⟨gs, q.2⟩ : Slot E))) = (look i es).map fun x => ⟨gs, x⟩
  | [] => rfl
  | q :: es => by
    simp only [List.map_cons, look]
    by_cases h : i = q.1
    · rw [if_pos (by rw [h]), if_pos h]; rfl
    · rw [if_neg (fun e => h (congrArg Prod.snd e)), if_neg h]; exact look_es
theorem look_es' {gs : Gs} {d t : Tmp} {i : Nat} (h : ¬ t = d) : ∀ {es : List (Nat × Ent E)}, look (t, i) (es.map fun q => ((d, q.1), (⟨gs, q.2⟩ : Slot E))) = none
  | [] => rfl
  | q :: es => by
    simp only [List.map_cons, look]
    rw [if_neg (fun e => h (congrArg Prod.fst e))]
    exact look_es' h

/-- The state behind a step is the step's doing. -/
theorem next_gr {s : Lst E} {gs : Gs} {d : Option Tmp} {es : List (Nat × Ent E)} {ru : List (Nat × Option (Root E))} {n : Nat} {nt : Nat × Nat} (hok : s.stepOk gs d ru n nt = true) (e : E) : (s.next gs d es ru n).gr e = (s.gr e).app (gdOf s gs d es ru e) := by
  unfold Lst.stepOk at hok
  simp only [Bool.and_eq_true] at hok
  obtain ⟨⟨⟨⟨h1, h2⟩, h3⟩, h4⟩, h5⟩ := hok
  unfold Lst.free at h1
  rw [Bool.and_eq_true] at h1
  obtain ⟨h1, h6⟩ := h1
  rw [List.all_eq_true] at h1 h6
  have hon := next_on (s := s) (gs := gs) (es := es) (ru := ru) (n := n) h2 e
  show (⟨_, _⟩ : G) = ⟨_, _⟩
  congr 1
  · funext q
    obtain ⟨t, i⟩ := q
    show (match look (t, i) (s.next gs d es ru n).tm with | some sl => _ | none => _) = _
    by_cases hd : d = some t
    · subst hd
      have hc : (some (t, i).1 = (gdOf s gs (some t) es ru e).dst) := rfl
      rw [if_pos hc]
      have e1 : look (t, i) (s.next gs (some t) es ru n).tm = (look i es).map fun x => ⟨gs, x⟩ := by
        unfold Lst.next
        simp only []
        rw [look_append, look_es]
        cases look i es with
        | some x => rfl
        | none =>
          simp only [Option.map_none]
          have := look_filter (t, i) (fun q : Nat × Nat => !(some t == some q.1)) s.tm
          rw [this]
          simp
      rw [e1]
      cases hl : look i es with
      | none =>
        simp only [Option.map_none, gdOf, evs, offOf, hl]
        split
        · rfl
        · by_cases hi : i = 0
          · subst hi; simp [hl]
          · simp [hi]
      | some x =>
        simp only [Option.map_some]
        rw [hon]
        simp only [gdOf, evs, offOf, hl]
        split
        · rfl
        · by_cases hi : i = 0
          · subst hi; simp [hl]
          · simp [hi]
    · have hc : ¬ (some (t, i).1 = (gdOf s gs d es ru e).dst) := fun e => hd e.symm
      rw [if_neg hc]
      have e1 : look (t, i) (s.next gs d es ru n).tm = look (t, i) s.tm := by
        unfold Lst.next
        simp only []
        rw [look_append]
        have : look (t, i) (match d with | some d => es.map fun q => ((d, q.1), (⟨gs, q.2⟩ : Slot E)) | none => []) = none := by
          cases d with
          | none => rfl
          | some d => exact look_es' (fun e => hd (by rw [e]))
        rw [this]
        simp only []
        have := look_filter (t, i) (fun q : Nat × Nat => !(d == some q.1)) s.tm
        rw [this]
        have : (!(d == some t)) = true := by simpa using hd
        simp [this]
      rw [e1]
      show _ = (match look (t, i) s.tm with | some sl => _ | none => _)
      cases hl : look (t, i) s.tm with
      | none => rfl
      | some sl =>
        simp only []
        rw [next_on (h1 _ (look_mem hl)) e]
  · funext r
    show (match look r (s.next gs d es ru n).rt with | some q => _ | none => _) = _
    have e1 : look r (s.next gs d es ru n).rt = match look r ru with | some q => some (mergeR s gs r q) | none => look r s.rt := by
      unfold Lst.next
      simp only []
      rw [look_append, look_mapK r (fun r (q : Option (Root E)) => mergeR s gs r q)]
      cases look r ru <;> rfl
    have e2 : look r (gdOf s gs d es ru e).ru = (look r ru).map fun q => q.map (Root.ev e) := by
      unfold gdOf
      simp only []
      exact look_map r (fun q : Option (Root E) => q.map (Root.ev e)) ru
    rw [e1, e2]
    cases hl : look r ru with
    | none =>
      simp only [Option.map_none]
      show _ = (match look r s.rt with | some q => _ | none => _)
      cases hr : look r s.rt with
      | none => rfl
      | some q =>
        simp only []
        rw [next_on (h6 _ (look_mem hr)) e]
    | some q =>
      simp only [Option.map_some]
      show _ = if s.on gs e = true then some (q.map (Root.ev e)) else boOf s r ((s.gr e).rt r)
      cases gs with
      | nil =>
        have : mergeR s [] r q = ([], q) := rfl
        rw [this]
        have h0 : s.on [] e = true := rfl
        rw [if_pos h0, if_pos (show (s.next [] d es ru n).on [] e = true from rfl)]
      | cons g0 l =>
        have h3 : (ru.all fun q => mergeB s q.1 q.2) = true := by simpa using h3
        rw [List.all_eq_true] at h3
        have hm := h3 _ (look_mem hl)
        simp only [] at hm
        unfold mergeB at hm
        have hrt : (s.gr e).rt r = match look r s.rt with | some q => if s.on q.1 e = true then some (q.2.map (Root.ev e)) else none | none => none := rfl
        split at hm
        · rename_i q _ _ hr
          have : mergeR s (g0 :: l) r q = (g0 :: l, q) := by unfold mergeR; rw [hr]
          rw [this]
          simp only []
          rw [hon]
          by_cases ho : s.on (g0 :: l) e = true
          · rw [if_pos ho, if_pos ho]
          · rw [if_neg ho, if_neg ho, hrt, hr]
            simp [boOf, hr]
        · rename_i Ro R hr
          simp only [Bool.and_eq_true, decide_eq_true_eq] at hm
          obtain ⟨⟨⟨k1, k2⟩, k3⟩, k4⟩ := hm
          obtain ⟨Rk, Rm, Rh, Rx⟩ := R
          obtain ⟨Ok, Om, Oh, Ox⟩ := Ro
          simp only [] at k1 k2 k3 k4
          subst k1 k2 k3
          have : mergeR s (g0 :: l) r (some ⟨Ok, Om, Oh + 1, Rx⟩) = ([], some ⟨Ok, Om, Oh + 1, fun e => if s.on (g0 :: l) e then Rx e else Ox e⟩) := by unfold mergeR; rw [hr]; simp
          rw [this]
          rw [if_pos (show (s.next (g0 :: l) d es ru n).on ([], some (⟨Ok, Om, Oh + 1, fun e => if s.on (g0 :: l) e then Rx e else Ox e⟩ : Root E)).1 e = true from rfl)]
          by_cases ho : s.on (g0 :: l) e = true
          · rw [if_pos ho]
            simp [Root.ev, ho]
          · rw [if_neg ho, hrt, hr]
            simp only []
            rw [if_pos (show s.on [] e = true from rfl)]
            simp [boOf, hr, raise, Root.ev, ho]
        · cases hm
theorem step_bo {s : Lst E} {gs : Gs} {d : Option Tmp} {ru : List (Nat × Option (Root E))} {n : Nat} {nt : Nat × Nat} (hok : s.stepOk gs d ru n nt = true) {e : E} (ho : ¬ s.on gs e = true) : ∀ r, (look r ru).isSome = true → (look r s.rt).isSome = true → ∃ R, (s.gr e).rt r = some (some R) ∧ ∃ m1, R.m = .ow m1 := by
  intro r hl hr
  unfold Lst.stepOk at hok
  simp only [Bool.and_eq_true] at hok
  obtain ⟨⟨⟨⟨_, _⟩, h3⟩, _⟩, _⟩ := hok
  cases gs with
  | nil => exact absurd rfl ho
  | cons g0 l =>
    have h3 : (ru.all fun q => mergeB s q.1 q.2) = true := by simpa using h3
    rw [List.all_eq_true] at h3
    obtain ⟨q, hq⟩ := Option.isSome_iff_exists.1 hl
    have hm := h3 _ (look_mem hq)
    simp only [] at hm
    unfold mergeB at hm
    split at hm
    · rename_i hn
      rw [hn] at hr; cases hr
    · rename_i Ro R hn
      simp only [Bool.and_eq_true, decide_eq_true_eq] at hm
      obtain ⟨⟨⟨k1, k2⟩, k3⟩, k4⟩ := hm
      have hrt : (s.gr e).rt r = match look r s.rt with | some q => if s.on q.1 e = true then some (q.2.map (Root.ev e)) else none | none => none := rfl
      rw [hn] at hrt
      simp only [] at hrt
      rw [if_pos (show s.on [] e = true from rfl)] at hrt
      refine ⟨_, hrt, ?_⟩
      have : (Root.ev e Ro).m = R.m := k2
      rw [this]
      unfold Mk.isOw at k4
      split at k4 <;> try (cases k4; done)
      exact ⟨_, by assumption⟩
    · cases hm
end
end Go.Lift

namespace Go.Lift
set_option linter.unusedVariables false
set_option linter.unusedSimpArgs false

/-- A step: what comes behind hangs on more (E'). -/
structure SR (E : Type) : Type 1 where
  E' : Type
  den : (R : Type) → Nat → (E' → Option R) → E → Option R
  s' : Lst E'
  tk : Tk

section
variable {E : Type}
def gTmp (ops : Array Oper) (o : Oper) : List Tmp := match o.guard with
  | none => []
  | some (j, _) => match (ops[j]?).bind (·.dst) with
    | some t => [t]
    | none => []
def guardOf (ops : Array Oper) (s : Lst E) (o : Oper) : Option Gs := match o.guard with
  | none => some []
  | some (j, want) => match (ops[j]?).bind (·.dst) with
    | none => none
    | some t => match look (t, 0) s.tm with
      | some ⟨gs', .val .bool _⟩ => some ((t, want) :: gs')
      | _ => none

def chkDen (s : Lst E) (gs : Gs) (c : Option (E → Bool)) (e : E) : Bool := match c, gs with
  | none, _ => true
  | some b, [] => b e
  | some b, gs => !s.on gs e || b e
def pureDen (s : Lst E) (gs : Gs) (c : Option (E → Bool)) (R : Type) (k : Nat) (K : E → Option R) (e : E) : Option R := match c with
  | none => K e
  | some _ => if chkDen s gs c e = true then K e else none
def callDen {X : Type} (s : Lst E) (gs : Gs) (f : Nat → E → Option X) (d : X) (R : Type) (k : Nat) (K : E × X → Option R) (e : E) : Option R := match gs with
  | [] => (f k e).bind fun x => K (e, x)
  | gs => (if s.on gs e = true then f k e else some d).bind fun x => K (e, x)

/-- A value, once. -/
def lt {A R : Type} (a : A) (f : A → Option R) : Option R := f a

/-! The step's values are bound: what comes behind reads them off the row. -/
def vE : List (Nat × Ent E) → List Kt
  | [] => []
  | (_, .val k _) :: l => k :: vE l
  | _ :: l => vE l
def vEs : (l : List (Nat × Ent E)) → E → HL (vE l)
  | [], _ => ()
  | (_, .val _ x) :: l, e => (x e, vEs l e)
  | (_, .own _) :: l, e => vEs l e
  | (_, .loc _ _ _) :: l, e => vEs l e
  | (_, .sub _ _ _) :: l, e => vEs l e
  | (_, .view _ _ _ _) :: l, e => vEs l e
  | (_, .place _ _) :: l, e => vEs l e
  | (_, .cst _) :: l, e => vEs l e
  | (_, .atl _) :: l, e => vEs l e
def vR : List (Nat × Option (Root E)) → List Kt
  | [] => []
  | (_, some R) :: l => R.k :: vR l
  | (_, none) :: l => vR l
def vRs : (l : List (Nat × Option (Root E))) → E → HL (vR l)
  | [], _ => ()
  | (_, some R) :: l, e => (R.x e, vRs l e)
  | (_, none) :: l, e => vRs l e
def bE {E' : Type} (f : E' → E) : (l : List (Nat × Ent E)) → (E' → HL (vE l)) → List (Nat × Ent E')
  | [], _ => []
  | (i, .val k _) :: l, pr => (i, .val k fun e => (pr e).1) :: bE f l fun e => (pr e).2
  | (i, .own r) :: l, pr => (i, .own r) :: bE f l pr
  | (i, .loc r hv p) :: l, pr => (i, .loc r hv (p.pull f)) :: bE f l pr
  | (i, .sub r hv p) :: l, pr => (i, .sub r hv (p.pull f)) :: bE f l pr
  | (i, .view r hv k p) :: l, pr => (i, .view r hv k (p.pull f)) :: bE f l pr
  | (i, .place k x) :: l, pr => (i, .place k fun e => x (f e)) :: bE f l pr
  | (i, .cst v) :: l, pr => (i, .cst v) :: bE f l pr
  | (i, .atl x) :: l, pr => (i, .atl fun e => x (f e)) :: bE f l pr
def bR {E' : Type} : (l : List (Nat × Option (Root E))) → (E' → HL (vR l)) → List (Nat × Option (Root E'))
  | [], _ => []
  | (i, some R) :: l, pr => (i, some ⟨R.k, R.m, R.hv, fun e => (pr e).1⟩) :: bR l fun e => (pr e).2
  | (i, none) :: l, pr => (i, none) :: bR l pr

theorem bE_ev {E' : Type} (f : E' → E) (e' : E') : ∀ (l : List (Nat × Ent E)) (pr : E' → HL (vE l)), pr e' = vEs l (f e') → (bE f l pr).map (fun q => (q.1, q.2.ev e')) = l.map fun q => (q.1, q.2.ev (f e'))
  | [], pr, h => rfl
  | (i, .val k x) :: l, pr, h => by
    simp only [bE, List.map_cons]
    rw [bE_ev f e' l _ (show (pr e').2 = _ by rw [h]; rfl)]
    have : (pr e').1 = x (f e') := by rw [h]; rfl
    simp only [Ent.ev, this]
  | (i, .own r) :: l, pr, h => by
    simp only [bE, List.map_cons]
    rw [bE_ev f e' l pr h]
    rfl
  | (i, .loc r hv p) :: l, pr, h => by
    simp only [bE, List.map_cons]
    rw [bE_ev f e' l pr h]
    simp only [Ent.ev, Path.at_pull]
  | (i, .sub r hv p) :: l, pr, h => by
    simp only [bE, List.map_cons]
    rw [bE_ev f e' l pr h]
    simp only [Ent.ev, Path.at_pull]
  | (i, .view r hv k p) :: l, pr, h => by
    simp only [bE, List.map_cons]
    rw [bE_ev f e' l pr h]
    simp only [Ent.ev, Path.at_pull]
  | (i, .place k x) :: l, pr, h => by
    simp only [bE, List.map_cons]
    rw [bE_ev f e' l pr h]
    rfl
  | (i, .cst v) :: l, pr, h => by
    simp only [bE, List.map_cons]
    rw [bE_ev f e' l pr h]
    rfl
  | (i, .atl x) :: l, pr, h => by
    simp only [bE, List.map_cons]
    rw [bE_ev f e' l pr h]
    rfl
theorem bR_ev {E' : Type} (f : E' → E) (e' : E') : ∀ (l : List (Nat × Option (Root E))) (pr : E' → HL (vR l)), pr e' = vRs l (f e') → (bR l pr).map (fun q => (q.1, q.2.map (Root.ev e'))) = l.map fun q => (q.1, q.2.map (Root.ev (f e')))
  | [], pr, h => rfl
  | (i, some R) :: l, pr, h => by
    simp only [bR, List.map_cons]
    rw [bR_ev f e' l _ (show (pr e').2 = _ by rw [h]; rfl)]
    have : (pr e').1 = R.x (f e') := by rw [h]; rfl
    simp only [Option.map_some, Root.ev, this]
  | (i, none) :: l, pr, h => by
    simp only [bR, List.map_cons]
    rw [bR_ev f e' l pr h]
    rfl
theorem evs_map {E : Type} (l : List (Nat × Ent E)) (e : E) (i : Nat) : evs l e i = look i (l.map fun q => (q.1, q.2.ev e)) := by
  unfold evs
  induction l with
  | nil => rfl
  | cons q l ih =>
    obtain ⟨j, x⟩ := q
    simp only [List.map_cons, look]
    split
    · rfl
    · exact ih
theorem look_some_map {E : Type} (l : List (Nat × Ent E)) (e : E) (i : Nat) : (look i l).isSome = (look i (l.map fun q => (q.1, q.2.ev e))).isSome := by
  rw [← evs_map]
  unfold evs
  cases look i l <;> rfl

/-- The roots that an operation looks at: a move looks at none. -/
def Lst.rootsD (s : Lst E) (o : Oper) : List Nat := if isMv o then [] else s.rootsOf (opTmps o)
def c_step (P : Program) (tab : Tab P) (ops : Array Oper) (nt : Nat × Nat) (s : Lst E) (o : Oper) : Option (SR E) := match guardOf ops s o with
  | none => none
  | some gs => match c_op P tab (onlyArgs ops o) s gs o with
    | none => none
    | some (.pure r) => if (s.pull (Prod.fst (α := E) (β := HL (vE r.es) × HL (vR r.ru)))).stepOk gs o.dst (bR (E' := E × HL (vE r.es) × HL (vR r.ru)) r.ru fun e => e.2.2) r.n nt then
        some ⟨E × HL (vE r.es) × HL (vR r.ru), fun R k K e => pureDen s gs r.chk R k (fun e => lt (vEs r.es e) fun v => lt (vRs r.ru e) fun u => K (e, v, u)) e, (s.pull Prod.fst).next gs o.dst (bE Prod.fst r.es fun e => e.2.1) (bR r.ru fun e => e.2.2) r.n, ⟨opTmps o ++ gTmp ops o, o.dst, s.rootsD o ++ (List.range r.n).map (s.nx + ·) ++ r.ru.map (·.1), r.ru.map (·.1)⟩⟩ else none
    | some (.call r) => if (s.pull (Prod.fst (α := E) (β := r.X))).stepOk gs o.dst r.ru r.n nt then
        some ⟨E × r.X, callDen s gs r.den r.dflt, (s.pull Prod.fst).next gs o.dst r.es r.ru r.n, ⟨opTmps o ++ gTmp ops o, o.dst, s.rootsOf (opTmps o) ++ (List.range r.n).map (s.nx + ·) ++ r.ru.map (·.1), r.ru.map (·.1)⟩⟩ else none

theorem look_ru_wr {E' : Type} {ru : List (Nat × Option (Root E'))} {e : E'} {r : Nat} (h : look r (ru.map fun q => (q.1, q.2.map (Root.ev e))) ≠ none) : (ru.map (·.1)).contains r = true := by
  induction ru with
  | nil => exact absurd rfl h
  | cons q ru ih =>
    simp only [List.map_cons, look] at h
    by_cases hr : r = q.1
    · subst hr; simp
    · rw [if_neg hr] at h
      have := ih h
      simp only [List.map_cons, List.contains_cons, this, Bool.or_true]

theorem app_on {E' : Type} {g : G} {d : Option Tmp} {es : List (Nat × Ent E')} {off : Nat → Option GEnt} {ru : List (Nat × Option (Root E'))} {bo : Nat → Option GR → Option GR} {e : E'} : g.app ⟨true, d, evs es e, off, ru.map fun q => (q.1, q.2.map (Root.ev e)), bo⟩ = g.put d (evs es e) (rtU g.rt ru e) := by
  unfold G.app G.put
  congr 1
  funext r
  simp only [if_true, rtU]
  rw [look_map r (fun q : Option (Root E') => q.map (Root.ev e))]
  cases look r ru <;> rfl

/-- The guard tells whether the operation is carried out. -/
theorem guard_spec {P : Program} {ops : Array Oper} {s : Lst E} {o : Oper} {gs : Gs} (h : guardOf ops s o = some gs) {e : E} {g : G} (hg : ∀ t ∈ gTmp ops o, ∀ c, g.tm (t, c) = (s.gr e).tm (t, c)) {cx : Cx} {a : Act} {w : World} {V : Nat → Value} {Fp : Nat → List Nat} (hp : Pre cx g a w V Fp) :
    Region.wanted o (yielded ops a.tmps) = s.on gs e := by
  unfold guardOf at h
  split at h
  · rename_i hgd
    obtain rfl := Option.some.inj h
    simp [Region.wanted, hgd, Lst.on]
  · rename_i j want hgd
    split at h <;> try (cases h; done)
    rename_i t ht
    split at h <;> try (cases h; done)
    rename_i gs' x hl
    obtain rfl := Option.some.inj h
    have hmem : t ∈ gTmp ops o := by simp [gTmp, hgd, ht]
    have h1 := hg t hmem 0
    have hon : s.on ((t, want) :: gs') e = ((x e == want) && s.on gs' e) := by
      unfold Lst.on
      rw [List.all_cons]
      congr 1
      simp [Lst.gval, hl]
    have h2 : (s.gr e).tm (t, 0) = if s.on gs' e = true then some (.val .bool (x e)) else some (.cst undef) := by
      show (match look (t, 0) s.tm with | some sl => _ | none => _) = _
      rw [hl]
      rfl
    rw [h2] at h1
    rw [hon]
    have hw : Region.wanted o (yielded ops a.tmps) = (yielded ops a.tmps j == some want) := by
      simp [Region.wanted, hgd]
    rw [hw]
    by_cases h3 : s.on gs' e = true
    · rw [if_pos h3] at h1
      obtain ⟨v, u, k1, k2, k3⟩ := hp.ents t 0 _ h1
      obtain rfl := Option.some.inj k2
      have := k3.bool
      subst this
      have hy : yielded ops a.tmps j = some (x e) := by
        unfold yielded
        rw [ht]
        simp only [Option.bind_some, k1]
      rw [hy, h3, Bool.and_true]
      cases x e <;> cases want <;> rfl
    · rw [if_neg h3] at h1
      obtain ⟨v, u, k1, k2, k3⟩ := hp.ents t 0 _ h1
      obtain rfl := Option.some.inj k2
      have hv : v = undef := k3
      subst hv
      have hy : yielded ops a.tmps j = none := by
        unfold yielded
        rw [ht]
        simp only [Option.bind_some, k1]
        rfl
      rw [hy]
      have : s.on gs' e = false := by simpa using h3
      rw [this, Bool.and_false]
      rfl

theorem stepOk_dst {s : Lst E} {gs : Gs} {d : Option Tmp} {ru : List (Nat × Option (Root E))} {n : Nat} {nt : Nat × Nat} (h : s.stepOk gs d ru n nt = true) : ∀ t, d = some t → nt.1 ≤ t ∧ t < nt.2 := by
  intro t ht
  subst ht
  unfold Lst.stepOk at h
  simp only [Bool.and_eq_true] at h
  simpa using h.2
theorem stepOk_new {s : Lst E} {gs : Gs} {d : Option Tmp} {ru : List (Nat × Option (Root E))} {n : Nat} {nt : Nat × Nat} (h : s.stepOk gs d ru n nt = true) (e : E) : ∀ i, i < n → (s.gr e).rt (s.nx + i) = none := by
  intro i hi
  unfold Lst.stepOk at h
  simp only [Bool.and_eq_true] at h
  have := List.all_eq_true.1 h.1.2 i (List.mem_range.2 hi)
  show (match look (s.nx + i) s.rt with | some q => _ | none => _) = none
  cases hl : look (s.nx + i) s.rt with
  | none => rfl
  | some q => rw [hl] at this; cases this

theorem off_sat {cx : Cx} {g : G} {a : Act} {w : World} {V : Nat → Value} {Fp : Nat → List Nat} (hp : Pre cx g a w V Fp) {d : Option Tmp} {es : List (Nat × Ent E)} {x : Nat → Option GEnt} {ru : List (Nat × GR)} {s : Lst E}
    (hup : ∀ r, (look r ru).isSome = true → (look r s.rt).isSome = true → ∃ R, g.rt r = some (some R) ∧ ∃ m1, R.m = .ow m1) (hd : ∀ t, d = some t → cx.T t) : GSat cx (g.app ⟨false, d, x, offOf es, ru, boOf s⟩) (a.put d undef) w := by
  have hun : ∀ r, ¬ ((look r ru).isSome = true ∧ (look r s.rt).isSome = true) → (g.app ⟨false, d, x, offOf es, ru, boOf s⟩).rt r = g.rt r := by
    intro r hr
    show (match look r ru with | some q => if false = true then some q else boOf s r (g.rt r) | none => g.rt r) = _
    cases hl : look r ru with
    | none => rfl
    | some q =>
      simp only [Bool.false_eq_true, if_false]
      have : ¬ (look r s.rt).isSome = true := fun h => hr ⟨by rw [hl]; rfl, h⟩
      unfold boOf
      rw [if_neg this]
  have hon : ∀ r, ((look r ru).isSome = true ∧ (look r s.rt).isSome = true) → (g.app ⟨false, d, x, offOf es, ru, boOf s⟩).rt r = raise (g.rt r) := by
    intro r hr
    show (match look r ru with | some q => if false = true then some q else boOf s r (g.rt r) | none => g.rt r) = _
    obtain ⟨q, hq⟩ := Option.isSome_iff_exists.1 hr.1
    rw [hq]
    simp only [Bool.false_eq_true, if_false]
    unfold boOf
    rw [if_pos hr.2]
  have hst : Step cx g.rt (g.app ⟨false, d, x, offOf es, ru, boOf s⟩).rt V V Fp Fp w w (fun r => (look r ru).isSome = true ∧ (look r s.rt).isSome = true) := by
    refine ⟨rfl, rfl, rfl, Nat.le_refl _, fun _ _ _ => rfl, fun r hr => ⟨hun r hr, rfl, rfl⟩, fun r hr b hb => .inr ⟨r, hr, hb⟩, fun r _ => hp.mem.nodup r, fun r q _ _ hne b hb => hp.mem.disj r q hne b hb, fun r hr hn => ?_, fun r R hr hR hK => ?_, fun r hr => ?_⟩
    · obtain ⟨R, hR, _⟩ := hup r hr.1 hr.2
      rw [hon r hr, hR] at hn
      exact absurd rfl (hn _)
    · obtain ⟨R0, hR0, _⟩ := hup r hr.1 hr.2
      rw [hon r hr, hR0] at hR
      obtain rfl := Option.some.inj (Option.some.inj hR)
      exact hp.mem.roots r R0 hR0
    · obtain ⟨R, hR, m1, hm⟩ := hup r hr.1 hr.2
      rw [hon r hr, hR]
      exact .inr ⟨R.m, R.hv + 1, R.x, rfl, rfl, .inr ⟨Nat.lt_succ_self _, fun _ _ => ⟨m1, hm⟩, fun p _ => rfl⟩⟩
  have := GSat.step hp.defers hp.size hp.mem hp.ents hst hd (v := undef) (es := offOf es) fun i en hi => by
    unfold offOf at hi
    split at hi
    · rename_i h
      obtain rfl := Option.some.inj hi
      rw [h.1]
      exact ⟨undef, rfl, rfl⟩
    · cases hi
  exact this

theorem boOf_pull {E' : Type} (f : E' → E) (s : Lst E) : boOf (s.pull f) = boOf s := by
  funext r x
  unfold boOf
  have : (look r (s.pull f).rt).isSome = (look r s.rt).isSome := by
    unfold Lst.pull
    simp only []
    rw [look_map r (fun q : Gs × Option (Root E) => (q.1, q.2.map (Root.pull f)))]
    cases look r s.rt <;> rfl
  rw [this]
theorem look_some_mapR {E' : Type} (r : Nat) (l : List (Nat × Option (Root E'))) (e : E') : (look r (l.map fun q => (q.1, q.2.map (Root.ev e)))).isSome = (look r l).isSome := by
  rw [look_map r (fun q : Option (Root E') => q.map (Root.ev e))]
  cases look r l <;> rfl
theorem look_isSome_mem {β : Type} {r : Nat} {l : List (Nat × β)} (h : (look r l).isSome = true) : r ∈ l.map (·.1) := by
  obtain ⟨q, hq⟩ := Option.isSome_iff_exists.1 h
  exact List.mem_map.2 ⟨_, look_mem hq, rfl⟩

/-- What is known of a step. -/
structure StepIs (P : Program) (Gl : World → Prop) (ops : Array Oper) (nt : Nat × Nat) (o : Oper) (tk : Tk) (g0 g1 : G) (δ : GD) : Prop where
  gr : g1 = g0.app δ
  dst : tk.tw = δ.dst
  wr : ∀ r, look r δ.ru ≠ none → tk.wr r = true
  loc : ∀ cx : Cx, cx.Gl = Gl → cx.nt = nt → OpLoc P ops cx o δ tk g0

theorem c_step_ok {P : Program} {Gl : World → Prop} {tab : Tab P} (htab : ∀ f sp, (f, sp) ∈ tab.fs → FnOk P Gl f sp) {ops : Array Oper} {nt : Nat × Nat} {s : Lst E} {o : Oper} {sr : SR E} (h : c_step P tab ops nt s o = some sr) :
    ∀ (R : Type) k (K : sr.E' → Option R) e out, sr.den R k K e = some out → ∃ e', K e' = some out ∧ ∃ δ : GD, StepIs P Gl ops nt o sr.tk (s.gr e) (sr.s'.gr e') δ := by
  unfold c_step at h
  split at h <;> try (cases h; done)
  rename_i gs hgs
  split at h <;> try (cases h; done)
  · rename_i r hr
    split at h <;> try (cases h; done)
    rename_i hok
    obtain rfl := Option.some.inj h
    have hS : Snd P o s gs r := c_op_ok (Gl := Gl) htab hr
    intro R k K e out hden
    have hc : K (e, vEs r.es e, vRs r.ru e) = some out ∧ chkDen s gs r.chk e = true := by
      simp only [pureDen] at hden
      split at hden
      · rename_i h0; exact ⟨hden, by rw [h0]; cases gs <;> rfl⟩
      · rename_i b h0
        split at hden
        · exact ⟨hden, by assumption⟩
        · cases hden
    have hgr : (s.pull (Prod.fst (α := E) (β := HL (vE r.es) × HL (vR r.ru)))).gr (e, vEs r.es e, vRs r.ru e) = s.gr e := gr_pull _ s _
    have hpo : (s.pull (Prod.fst (α := E) (β := HL (vE r.es) × HL (vR r.ru)))).on gs (e, vEs r.es e, vRs r.ru e) = s.on gs e := on_pull _ s gs _
    have hbe := bE_ev (Prod.fst (α := E) (β := HL (vE r.es) × HL (vR r.ru))) (e, vEs r.es e, vRs r.ru e) r.es (fun e => e.2.1) rfl
    have hbr := bR_ev (Prod.fst (α := E) (β := HL (vE r.es) × HL (vR r.ru))) (e, vEs r.es e, vRs r.ru e) r.ru (fun e => e.2.2) rfl
    have hgd : gdOf (s.pull (Prod.fst (α := E) (β := HL (vE r.es) × HL (vR r.ru)))) gs o.dst (bE Prod.fst r.es fun e => e.2.1) (bR r.ru fun e => e.2.2) (e, vEs r.es e, vRs r.ru e) = gdOf s gs o.dst r.es r.ru e := by
      unfold gdOf
      rw [hpo, hbr]
      have h1 : evs (bE (Prod.fst (α := E) (β := HL (vE r.es) × HL (vR r.ru))) r.es fun e => e.2.1) (e, vEs r.es e, vRs r.ru e) = evs r.es e := by
        funext i
        rw [evs_map, evs_map, hbe]
      have h2 : offOf (bE (Prod.fst (α := E) (β := HL (vE r.es) × HL (vR r.ru))) r.es fun e => e.2.1) = offOf r.es := by
        funext i
        unfold offOf
        rw [look_some_map _ (e, vEs r.es e, vRs r.ru e), look_some_map r.es e, hbe]
      rw [h1, h2, boOf_pull]
    have hnx := next_gr (es := bE (Prod.fst (α := E) (β := HL (vE r.es) × HL (vR r.ru))) r.es fun e => e.2.1) hok (e, vEs r.es e, vRs r.ru e)
    rw [hgr, hgd] at hnx
    have hnew : ∀ i, i < r.n → (s.gr e).rt (s.nx + i) = none := fun i hi => by
      have := stepOk_new hok (e, vEs r.es e, vRs r.ru e) i hi
      rw [hgr] at this
      exact this
    refine ⟨(e, vEs r.es e, vRs r.ru e), hc.1, gdOf s gs o.dst r.es r.ru e, hnx, rfl, fun q hq => look_ru_wr hq, fun cx hGl hnt => ?_⟩
    intro g hag a w hsat
    obtain ⟨V, Fp, hp⟩ := hsat.pre
    have hw := guard_spec (P := P) hgs (e := e) (g := g) (fun t ht c => hag.tm t (List.mem_append_right _ ht) c) hp
    have hd : ∀ t, o.dst = some t → cx.T t := by unfold Cx.T; rw [hnt]; exact stepOk_dst hok
    by_cases hon : s.on gs e = true
    · rw [if_pos (by rw [hw]; exact hon)]
      intro Q
      have e1 : g.app (gdOf s gs o.dst r.es r.ru e) = g.put o.dst (evs r.es e) (rtU g.rt r.ru e) := by
        unfold gdOf
        rw [hon]
        exact app_on
      by_cases hmv : isMv o = true
      · obtain ⟨x, hx1, hx2⟩ := c_op_mv hmv hr
        rw [e1]
        exact snd_mv_tm hx1 hx2 hon (fun t ht i => hag.tm t (List.mem_append_left _ ht) i) hd hp
      have hA : Agree g s e (opTmps o) r.n := ⟨fun t ht i => hag.tm t (List.mem_append_left _ ht) i, fun q hq => hag.rt q (List.mem_append_left _ (List.mem_append_left _ (by unfold Lst.rootsD; rw [if_neg hmv]; exact hq))), fun i hi => by
        rw [hag.rt _ (List.mem_append_left _ (List.mem_append_right _ (List.mem_map.2 ⟨i, List.mem_range.2 hi, rfl⟩)))]
        exact hnew i hi⟩
      have hchk : r.ok e = true := by
        have h2 := hc.2
        unfold chkDen at h2
        unfold OR.ok
        cases hcc : r.chk with
        | none => rfl
        | some b =>
          rw [hcc] at h2
          cases gs with
          | nil => exact h2
          | cons q gs =>
            have h2 : (!s.on (q :: gs) e || b e) = true := h2
            rw [hon] at h2
            exact h2
      have := hS cx e g a w V Fp Q hon hchk hA hd hp
      rw [e1]
      exact this
    · rw [if_neg (by rw [hw]; exact hon)]
      unfold gdOf
      have : s.on gs e = false := by simpa using hon
      rw [this]
      refine off_sat hp (fun q hq1 hq2 => ?_) hd
      have h3 := look_some_mapR q (bR (E' := E × HL (vE r.es) × HL (vR r.ru)) r.ru fun e => e.2.2) (e, vEs r.es e, vRs r.ru e)
      rw [hbr] at h3
      obtain ⟨R, hR, hm⟩ := step_bo hok (e := (e, vEs r.es e, vRs r.ru e)) (by rw [hpo]; exact hon) q (by rw [← h3]; exact hq1) (by
        have := congrFun (congrFun (boOf_pull (Prod.fst (α := E) (β := HL (vE r.es) × HL (vR r.ru))) s) q)
        show (look q (s.pull (Prod.fst (α := E) (β := HL (vE r.es) × HL (vR r.ru)))).rt).isSome = true
        unfold Lst.pull
        simp only []
        rw [look_map q (fun p : Gs × Option (Root E) => (p.1, p.2.map (Root.pull (Prod.fst (α := E) (β := HL (vE r.es) × HL (vR r.ru))))))]
        obtain ⟨y, hy⟩ := Option.isSome_iff_exists.1 hq2
        rw [hy]; rfl)
      rw [hgr] at hR
      refine ⟨R, ?_, hm⟩
      rw [look_some_mapR] at hq1
      rw [hag.rt q (List.mem_append_right _ (look_isSome_mem hq1))]
      exact hR
  · rename_i r hr
    split at h <;> try (cases h; done)
    rename_i hok
    obtain rfl := Option.some.inj h
    have hS : SndC P Gl o s gs r := c_op_ok htab hr
    intro R k K e out hden
    have hc : ∃ x, K (e, x) = some out ∧ (s.on gs e = true → r.den k e = some x) := by
      simp only [callDen] at hden
      split at hden
      · obtain ⟨x, h1, h2⟩ := Option.bind_eq_some_iff.1 hden
        exact ⟨x, h2, fun _ => h1⟩
      · obtain ⟨x, h1, h2⟩ := Option.bind_eq_some_iff.1 hden
        refine ⟨x, h2, fun hon => ?_⟩
        rw [if_pos hon] at h1
        exact h1
    obtain ⟨x, hK, hx⟩ := hc
    have hgr : (s.pull (Prod.fst (α := E) (β := r.X))).gr (e, x) = s.gr e := gr_pull _ s (e, x)
    have hpo : (s.pull (Prod.fst (α := E) (β := r.X))).on gs (e, x) = s.on gs e := on_pull _ s gs (e, x)
    refine ⟨(e, x), hK, gdOf (s.pull Prod.fst) gs o.dst r.es r.ru (e, x), ?_, rfl, fun q hq => look_ru_wr hq, fun cx hGl hnt => ?_⟩
    · have := next_gr (es := r.es) hok (e, x)
      rw [hgr] at this
      exact this
    intro g hag a w hsat
    obtain ⟨V, Fp, hp⟩ := hsat.pre
    have hw := guard_spec (P := P) hgs (e := e) (g := g) (fun t ht c => hag.tm t (List.mem_append_right _ ht) c) hp
    have hd : ∀ t, o.dst = some t → cx.T t := by unfold Cx.T; rw [hnt]; exact stepOk_dst hok
    by_cases hon : s.on gs e = true
    · rw [if_pos (by rw [hw]; exact hon)]
      intro Q
      have hA : Agree g s e (opTmps o) r.n := ⟨fun t ht i => hag.tm t (List.mem_append_left _ ht) i, fun q hq => hag.rt q (List.mem_append_left _ (List.mem_append_left _ hq)), fun i hi => by
        rw [hag.rt _ (List.mem_append_left _ (List.mem_append_right _ (List.mem_map.2 ⟨i, List.mem_range.2 hi, rfl⟩)))]
        have := stepOk_new hok (e, x) i hi
        rw [hgr] at this
        exact this⟩
      have := hS cx k e x g a w V Fp Q hGl hon (hx hon) hA hd hp
      have e1 : g.app (gdOf (s.pull Prod.fst) gs o.dst r.es r.ru (e, x)) = g.put o.dst (evs r.es (e, x)) (rtU g.rt r.ru (e, x)) := by
        unfold gdOf
        rw [hpo, hon]
        exact app_on
      rw [e1]
      exact this
    · rw [if_neg (by rw [hw]; exact hon)]
      unfold gdOf
      have : s.on gs e = false := by simpa using hon
      rw [hpo, this]
      refine off_sat hp (s := s.pull (Prod.fst (α := E) (β := r.X))) (fun q hq1 hq2 => ?_) hd
      rw [look_some_mapR] at hq1
      obtain ⟨R, hR, hm⟩ := step_bo hok (e := (e, x)) (by rw [hpo]; exact hon) q hq1 hq2
      rw [hgr] at hR
      refine ⟨R, ?_, hm⟩
      rw [hag.rt q (List.mem_append_right _ (look_isSome_mem hq1))]
      exact hR
end

/-! ### A region -/
structure RR (E : Type) : Type 1 where
  E' : Type
  den : (R : Type) → Nat → (E' → Option R) → E → Option R
  s' : Lst E'
  tks : List Tk

def c_ops (P : Program) (tab : Tab P) (ops : Array Oper) (nt : Nat × Nat) : (l : List Oper) → {E : Type} → Lst E → Option (RR E)
  | [], E, s => some ⟨E, fun _ _ K e => K e, s, []⟩
  | o :: l, E, s => match c_step P tab ops nt s o with
    | none => none
    | some sr => match c_ops P tab ops nt l sr.s' with
      | none => none
      | some rr => some ⟨rr.E', fun R k K e => sr.den R k (fun e' => rr.den R k K e') e, rr.s', sr.tk :: rr.tks⟩

theorem gS_shift (S : Nat → Bool) : ∀ (l : List GD) (g : G) (k : Nat), gS g S l (k + 1) = gS g (fun j => S (j + 1)) l k
  | [], g, k => rfl
  | δ :: l, g, k => by
    simp only [gS]
    exact gS_shift S l _ (k + 1)

theorem c_ops_ok {P : Program} {Gl : World → Prop} {tab : Tab P} (htab : ∀ f sp, (f, sp) ∈ tab.fs → FnOk P Gl f sp) {ops : Array Oper} {nt : Nat × Nat} : ∀ (l : List Oper) {E : Type} (s : Lst E) (rr : RR E), c_ops P tab ops nt l s = some rr →
    ∀ (R : Type) k (K : rr.E' → Option R) e out, rr.den R k K e = some out → ∃ e', K e' = some out ∧ ∃ ds : List GD, ds.length = l.length ∧ rr.tks.length = l.length ∧ gS (s.gr e) (fun _ => true) ds 0 = rr.s'.gr e' ∧
      (∀ i o δ tk, l[i]? = some o → ds[i]? = some δ → rr.tks[i]? = some tk → (tk.tw = δ.dst ∧ ∀ r, look r δ.ru ≠ none → tk.wr r = true) ∧ ∀ cx : Cx, cx.Gl = Gl → cx.nt = nt → OpLoc P ops cx o δ tk (gS (s.gr e) (fun j => decide (j < i)) ds 0))
  | [], E, s, rr, h => by
    obtain rfl := Option.some.inj h
    intro R k K e out hden
    exact ⟨e, hden, [], rfl, rfl, rfl, fun i o δ tk hi => by cases hi⟩
  | o :: l, E, s, rr, h => by
    simp only [c_ops] at h
    split at h <;> try (cases h; done)
    rename_i sr hsr
    split at h <;> try (cases h; done)
    rename_i rr' hrr
    obtain rfl := Option.some.inj h
    intro R k K e out hden
    obtain ⟨e1, hK1, δ, hδ⟩ := c_step_ok htab hsr R k _ e out hden
    obtain ⟨e', hK, ds, h1, h2, h3, h4⟩ := c_ops_ok htab l sr.s' rr' hrr R k K e1 out hK1
    refine ⟨e', hK, δ :: ds, by simp [h1], by simp [h2], ?_, fun i o' δ' tk hi hd ht => ?_⟩
    · simp only [gS, if_true]
      rw [← hδ.gr, gS_shift]
      exact h3
    · cases i with
      | zero =>
        obtain rfl := Option.some.inj hi
        obtain rfl := Option.some.inj hd
        obtain rfl := Option.some.inj ht
        refine ⟨⟨hδ.dst, hδ.wr⟩, fun cx hGl hnt => ?_⟩
        have : gS (s.gr e) (fun j => decide (j < 0)) (δ :: ds) 0 = s.gr e := by
          have : ∀ (l : List GD) (g : G) (k : Nat), gS g (fun j => decide (j < 0)) l k = g := by
            intro l
            induction l with
            | nil => intro g k; rfl
            | cons δ l ih => intro g k; simp only [gS]; rw [ih]; simp
          exact this _ _ _
        rw [this]
        exact hδ.loc cx hGl hnt
      | succ i =>
        obtain ⟨h5, h6⟩ := h4 i o' δ' tk hi hd ht
        refine ⟨h5, fun cx hGl hnt => ?_⟩
        have : gS (s.gr e) (fun j => decide (j < i + 1)) (δ :: ds) 0 = gS (sr.s'.gr e1) (fun j => decide (j < i)) ds 0 := by
          simp only [gS]
          rw [if_pos (by simp), ← hδ.gr, gS_shift]
          congr 1
          funext j
          simp
        rw [this]
        exact h6 cx hGl hnt

/-- A region: one order serves all. -/
def c_region (P : Program) (tab : Tab P) (nt : Nat × Nat) (ops : Array Oper) (draw : Bool) {E : Type} (s : Lst E) : Option (RR E) := match c_ops P tab ops nt ops.toList s with
  | none => none
  | some rr => if !draw || (edgesBack ops.toList && ordOk (befs ops.toList []) rr.tks) then some rr else none

theorem wpList_plan {P : Program} {ops : Array Oper} {cx : Cx} {Q : Exit → Act → World → Prop} : ∀ (l : List Oper) (ds : List GD) (tks : List Tk) (g0 : G), ds.length = l.length → tks.length = l.length →
    (∀ i o δ tk, l[i]? = some o → ds[i]? = some δ → tks[i]? = some tk → OpLoc P ops cx o δ tk (gS g0 (fun j => decide (j < i)) ds 0)) → (∀ a w, GSat cx (gS g0 (fun _ => true) ds 0) a w → Q .normal a w) → ∀ a w, GSat cx g0 a w → wpList P ops Q l a w
  | [], ds, tks, g0, hl, ht, hloc, hQ, a, w, hs => by
    rw [List.length_eq_zero_iff.1 hl] at hQ
    exact hQ a w hs
  | o :: l, ds, tks, g0, hl, ht, hloc, hQ, a, w, hs => by
    match ds, tks, hl, ht with
    | δ :: ds, tk :: tks, hl, ht =>
      have h0 := hloc 0 o δ tk rfl rfl rfl
      have e0 : gS g0 (fun j => decide (j < 0)) (δ :: ds) 0 = g0 := by
        have : ∀ (l : List GD) (g : G) (k : Nat), gS g (fun j => decide (j < 0)) l k = g := by
          intro l
          induction l with
          | nil => intro g k; rfl
          | cons δ l ih => intro g k; simp only [gS]; rw [ih]; simp
        exact this _ _ _
      rw [e0] at h0
      have hstep := h0 g0 ⟨fun _ _ _ => rfl, fun _ _ => rfl⟩ a w hs
      have next : ∀ a' w', GSat cx (g0.app δ) a' w' → wpList P ops Q l a' w' := by
        refine wpList_plan l ds tks (g0.app δ) (by simpa using hl) (by simpa using ht) (fun i o' δ' tk' hi hd htk => ?_) (fun a' w' h => hQ a' w' ?_)
        · have := hloc (i + 1) o' δ' tk' hi hd htk
          have e1 : gS g0 (fun j => decide (j < i + 1)) (δ :: ds) 0 = gS (g0.app δ) (fun j => decide (j < i)) ds 0 := by
            simp only [gS]
            rw [if_pos (by simp), gS_shift]
            congr 1
            funext j
            simp
          rw [e1] at this
          exact this
        · simp only [gS, if_true]
          rw [gS_shift]
          exact h
      unfold wpList
      split
      · rename_i hw
        rw [if_pos hw] at hstep
        exact .inl (Oper.wp_mono (fun a' w' h => next a' w' h) (hstep Q))
      · rename_i hw
        rw [if_neg hw] at hstep
        exact next _ _ hstep

theorem GSat.drew {cx : Cx} {g : G} {a : Act} {w : World} (h : GSat cx g a w) (n : Nat) : GSat cx g a { w with drawn := n } := by
  obtain ⟨V, Fp, hp⟩ := h.pre
  have hst : Step cx g.rt g.rt V V Fp Fp w { w with drawn := n } (fun _ => False) := Step.id rfl rfl rfl rfl
  exact ⟨hp.defers, hp.size, V, Fp, hst.mem hp.mem, fun t i ent he => by
    obtain ⟨v, u, h1, h2, h3⟩ := hp.ents t i ent he
    exact ⟨v, u, h1, h2, hst.esat hp.mem h3⟩⟩

theorem c_region_ok {P : Program} {Gl : World → Prop} {tab : Tab P} (hm : P.follows .mixedOrders = true) (htab : ∀ f sp, (f, sp) ∈ tab.fs → FnOk P Gl f sp) {nt : Nat × Nat} {id : Nat} {ops : Array Oper} {draw : Bool} {E : Type} {s : Lst E} {rr : RR E} (h : c_region P tab nt ops draw s = some rr) :
    ∀ (R : Type) k (K : rr.E' → Option R) e out, rr.den R k K e = some out → ∃ e', K e' = some out ∧ ∀ (cx : Cx) a w (Q : Exit → Act → World → Prop), cx.Gl = Gl → cx.nt = nt → GSat cx (s.gr e) a w → (∀ a' w', GSat cx (rr.s'.gr e') a' w' → Q .normal a' w') → (Code.region id ops draw).wp P Q a w := by
  unfold c_region at h
  split at h <;> try (cases h; done)
  rename_i rr' hrr
  split at h <;> try (cases h; done)
  rename_i hdr
  obtain rfl := Option.some.inj h
  intro R k K e out hden
  obtain ⟨e', hK, ds, h1, h2, h3, h4⟩ := c_ops_ok htab ops.toList s rr' hrr R k K e out hden
  refine ⟨e', hK, fun cx a w Q hGl hnt hs hQ => ?_⟩
  have hQ' : ∀ a' w', GSat cx (gS (s.gr e) (fun _ => true) ds 0) a' w' → Q .normal a' w' := by rw [h3]; exact hQ
  cases draw with
  | false =>
    exact wp_region_list (wpList_plan ops.toList ds rr'.tks (s.gr e) h1 h2 (fun i o δ tk hi hd ht => (h4 i o δ tk hi hd ht).2 cx hGl hnt) hQ' a w hs)
  | true =>
    simp only [Bool.not_true, Bool.false_or, Bool.and_eq_true] at hdr
    have hplan : Plan P ops cx (s.gr e) ds rr'.tks := ⟨by simpa using h1, by simpa using h2, fun i o δ tk hi hd ht => (h4 i o δ tk (by simpa using hi) hd ht).2 cx hGl hnt, fun i δ tk hd ht => by
      have hlt : i < ops.toList.length := by rw [← h1]; exact (List.getElem?_eq_some_iff.1 hd).1
      exact (h4 i ops.toList[i] δ tk (List.getElem?_eq_getElem hlt) hd ht).1, hdr.1, hdr.2⟩
    refine wp_region_any hm (plan_any hplan hQ' ops.size _ a _ (by simp) (fun j o hj hl => ?_) (by simp) ?_)
    · exfalso
      simp [Array.getD] at hl
    · have : gS (s.gr e) (fun j => (Array.replicate ops.size false).getD j false) ds 0 = s.gr e := by
        have e0 : (fun j => (Array.replicate ops.size false).getD j false) = fun _ => false := by
          funext j
          simp [Array.getD]
        rw [e0]
        have : ∀ (l : List GD) (g : G) (k : Nat), gS g (fun _ => false) l k = g := by
          intro l
          induction l with
          | nil => intro g k; rfl
          | cons δ l ih => intro g k; simp only [gS]; rw [ih]; simp
        exact this _ _ _
      rw [this]
      exact hs.drew _
end Go.Lift
