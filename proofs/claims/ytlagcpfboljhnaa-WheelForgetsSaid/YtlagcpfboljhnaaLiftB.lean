/-
  THE LIFT (LiftB): a checked way from the model's code to plain functions: what a function is compiled to, it is.
-/
import Derived.Test.YtlagcpfboljhnaaLiftA
import Derived.Laws.StructEq
import Derived.ChangeKeysEq
namespace Go.Lift
set_option linter.unusedVariables false
set_option linter.unusedSimpArgs false
section
variable {E : Type} {P : Program} {o : Oper} {s : Lst E} {gs : Gs}

/-! ### slices of slices and of strings -/
/-- A bound of a slice expression. -/
def bnd (s : Lst E) (gs : Gs) : Option Operand → Option (Option (E → Int))
  | none => some none
  | some x => match s.op gs x with
    | some (.val (.int _) f) => some (some f)
    | _ => none
def loF (lo : Option (E → Int)) (e : E) : Nat := match lo with | none => 0 | some f => (f e).toNat
def hiF (hi : Option (E → Int)) (n : E → Nat) (e : E) : Nat := match hi with | none => n e | some f => (f e).toNat
/-- 0 ≤ lo ≤ hi ≤ n -/
def bndOk (lo hi : Option (E → Int)) (n : E → Nat) (e : E) : Bool :=
  (match lo with | none => true | some f => decide (0 ≤ f e)) && (match hi with | none => true | some f => decide (0 ≤ f e)) && decide (loF lo e ≤ hiF hi n e) && decide (hiF hi n e ≤ n e)

theorem bnd_spec {cx : Cx} {g : G} {a : Act} {w : World} {V : Nat → Value} {Fp : Nat → List Nat} {e : E} {n : Nat} (hp : Pre cx g a w V Fp) (hA : Agree g s e (opTmps o) n) (h1 : s.on gs e = true) {x : Option Operand} {f : Option (E → Int)} (h : bnd s gs x = some f) (hm : ∀ y, x = some y → y ∈ o.op.operands) :
    (x = none ∧ f = none) ∨ ∃ y k f', x = some y ∧ f = some f' ∧ a.eval y = .int k (f' e) := by
  cases x with
  | none => obtain rfl := Option.some.inj h; exact .inl ⟨rfl, rfl⟩
  | some y =>
    unfold bnd at h
    split at h <;> try (cases h; done)
    · rename_i hx; cases hx
    · rename_i x' hx
      obtain rfl := Option.some.inj hx
      split at h <;> try (cases h; done)
      rename_i k f' hy
      obtain rfl := Option.some.inj h
      exact .inr ⟨y, k, f', rfl, rfl, (Lst.op_esat hp hA h1 (hm y rfl) hy).int⟩

theorem run_bounds {isS : Bool} {len cap : Nat} (hlc : len ≤ cap) {lo hi : Option Value} {l h : Nat} (hl : (lo = none ∧ l = 0) ∨ ∃ k i, lo = some (.int k i) ∧ 0 ≤ i ∧ i.toNat = l) (hh : (hi = none ∧ h = len) ∨ ∃ k i, hi = some (.int k i) ∧ 0 ≤ i ∧ i.toNat = h) (h1 : l ≤ h) (h2 : h ≤ len) (w : World) :
    (Instr.sliceBounds isS len cap lo hi none).run P w = .ok (l, h, cap) w := by
  rcases hl with ⟨rfl, rfl⟩ | ⟨k, i, rfl, hi0, rfl⟩ <;> rcases hh with ⟨rfl, rfl⟩ | ⟨k', j, rfl, hj0, rfl⟩
  · simp [Instr.sliceBounds]
  · have e1 : j ≤ (cap : Int) := by omega
    simp [Instr.sliceBounds, Instr.sliceBound, asIntOf, hj0, e1]
  · have e1 : i ≤ (h : Int) := by omega
    simp [Instr.sliceBounds, Instr.sliceBound, asIntOf, hi0, e1]
  · have e1 : j ≤ (cap : Int) := by omega
    have e2 : i ≤ j := by omega
    have e3 : i ≤ ((j.toNat : Nat) : Int) := by omega
    have e4 : i ≤ max j 0 := by omega
    simp [Instr.sliceBounds, Instr.sliceBound, asIntOf, hj0, hi0, e1, e2, e3, e4]

def c_slice (P : Program) (s : Lst E) (gs : Gs) (t : TypeId) (x : Operand) (lo hi : Option Operand) : Option (OR E) := match bnd s gs lo, bnd s gs hi with
  | some l, some h => match s.op gs x with
    | some (.val .str a) => match P.underlying t with
      | some .string => some ⟨some (bndOk l h fun e => (a e).size), [(0, .val .str fun e => (a e).extract (loF l e) (hiF h (fun e => (a e).size) e))], [], 0⟩
      | _ => none
    | some (.val (.sl T el) xs) => if sliceOk P t T el then
        some ⟨some (bndOk l h fun e => (xs e).length), [(0, .val (.sl T el) fun e => ((xs e).take (hiF h (fun e => (xs e).length) e)).drop (loF l e))], [], 0⟩ else none
    | some (.own r) => match s.root gs r, l with
      | some ⟨.sl T el, .ow m, _, xs⟩, none => if sliceOk P t T el then
          some ⟨some (bndOk none h fun e => (xs e).length), [(0, .own s.nx)], [(s.nx, some ⟨.sl T el, .ow m, 0, fun e => (xs e).take (hiF h (fun e => (xs e).length) e)⟩), (r, none)], 1⟩ else none
      | _, _ => none
    | _ => none
  | _, _ => none

theorem bndOk_spec {lo hi : Option (E → Int)} {n : E → Nat} {e : E} (h : bndOk lo hi n e = true) : loF lo e ≤ hiF hi n e ∧ hiF hi n e ≤ n e ∧ (∀ f, lo = some f → 0 ≤ f e) ∧ (∀ f, hi = some f → 0 ≤ f e) := by
  unfold bndOk at h
  simp only [Bool.and_eq_true, decide_eq_true_eq] at h
  refine ⟨h.1.2, h.2, fun f hf => ?_, fun f hf => ?_⟩
  · subst hf; have := h.1.1.1; simpa using this
  · subst hf; have := h.1.1.2; simpa using this

theorem Addr_map_add (b o' n : Nat) : (⟨b, o', none⟩ : Addr).add n = ⟨b, o' + n, none⟩ := Addr.add_lit ..

theorem snd_slice {t : TypeId} {x : Operand} {lo hi : Option Operand} {r : OR E} (ho : o.op = .slice t x lo hi none) (h : c_slice P s gs t x lo hi = some r) : Snd P o s gs r := by
  unfold c_slice at h
  have mx : x ∈ o.op.operands := by simp [ho, Op.operands]
  have ml : ∀ y, lo = some y → y ∈ o.op.operands := by intro y hy; subst hy; simp [ho, Op.operands]
  have mh : ∀ y, hi = some y → y ∈ o.op.operands := by intro y hy; subst hy; simp [ho, Op.operands]
  split at h <;> try (cases h; done)
  rename_i l h' hl hh
  have bl : ∀ {cx : Cx} {g : G} {a : Act} {w : World} {V : Nat → Value} {Fp : Nat → List Nat} {e : E} {n : Nat}, Pre cx g a w V Fp → Agree g s e (opTmps o) n → s.on gs e = true → ∀ {m : E → Nat}, bndOk l h' m e = true →
      ((lo.map a.eval = none ∧ loF l e = 0) ∨ ∃ k i, lo.map a.eval = some (.int k i) ∧ 0 ≤ i ∧ i.toNat = loF l e) ∧ ((hi.map a.eval = none ∧ hiF h' m e = m e) ∨ ∃ k i, hi.map a.eval = some (.int k i) ∧ 0 ≤ i ∧ i.toNat = hiF h' m e) := by
    intro cx g a w V Fp e n hp hA h1 m hb
    obtain ⟨_, _, b3, b4⟩ := bndOk_spec hb
    refine ⟨?_, ?_⟩
    · rcases bnd_spec hp hA h1 hl ml with ⟨rfl, rfl⟩ | ⟨y, k, f, rfl, rfl, hy⟩
      · exact .inl ⟨rfl, rfl⟩
      · exact .inr ⟨k, f e, by simp [hy], b3 f rfl, rfl⟩
    · rcases bnd_spec hp hA h1 hh mh with ⟨rfl, rfl⟩ | ⟨y, k, f, rfl, rfl, hy⟩
      · exact .inl ⟨rfl, rfl⟩
      · exact .inr ⟨k, f e, by simp [hy], b4 f rfl, rfl⟩
  split at h <;> try (cases h; done)
  · rename_i a hx
    split at h <;> try (cases h; done)
    rename_i ht
    obtain rfl := Option.some.inj h
    refine Snd.value fun cx e g ac w V Fp h1 hok hA hp => ⟨_, ?_, esat_str _⟩
    rw [OR.ok_holds] at hok
    have hok : bndOk l h' (fun e => (a e).size) e = true := hok
    obtain ⟨c1, c2, _, _⟩ := bndOk_spec hok
    obtain ⟨d1, d2⟩ := bl hp hA h1 hok
    have := run_bounds (P := P) (isS := false) (Nat.le_refl (a e).size) d1 d2 c1 c2 w
    simp [execOp, ho, (Lst.op_esat hp hA h1 mx hx).str, Instr.sliceAt, run_underlying ht, Instr.slice, this]
  · rename_i T el xs hx
    split at h <;> try (cases h; done)
    rename_i ht
    obtain rfl := Option.some.inj h
    refine Snd.value fun cx e g ac w V Fp h1 hok hA hp => ?_
    rw [OR.ok_holds] at hok
    have hok : bndOk l h' (fun e => (xs e).length) e = true := hok
    obtain ⟨c1, c2, _, _⟩ := bndOk_spec hok
    obtain ⟨d1, d2⟩ := bl hp hA h1 hok
    obtain ⟨A, cap, h2, ⟨h3, hmx⟩, h4⟩ := (Lst.op_esat hp hA h1 mx hx).sl
    obtain ⟨hu, hs⟩ := sliceOk_spec ht
    obtain ⟨inf, h5, h6⟩ := Option.map_eq_some_iff.1 hs
    have := run_bounds (P := P) (isS := true) h3 d1 d2 c1 c2 w
    generalize hL : loF l e = L at *
    generalize hH : hiF h' (fun e => (xs e).length) e = H at *
    refine ⟨.slice (if cap = L then A else A.map (·.add (L * el.size))) (H - L) (cap - L), ?_, ?_⟩
    · simp [execOp, ho, h2, Instr.sliceAt, run_underlying hu, Instr.slice, this, sizeOf, typeInfo, h5, h6]
    · have hlen : (((xs e).take H).drop L).length = H - L := by rw [List.length_drop, List.length_take]; omega
      refine ⟨[.slice (if cap = L then A else A.map (·.add (L * el.size))) (H - L) (cap - L)], rfl, rfl, .inr ⟨by simp, (if cap = L then A else A.map (·.add (L * el.size))), cap - L, ?_, ?_, ?_⟩⟩
      · show _ = [Value.slice _ (List.length (((xs e).take (hiF h' (fun e => (xs e).length) e)).drop (loF l e))) _]
        rw [hL, hH, hlen]
      · show CapOk (List.length (((xs e).take (hiF h' (fun e => (xs e).length) e)).drop (loF l e))) _
        rw [hL, hH, hlen]; exact ⟨by omega, by omega⟩
      · show Nl (if cap = L then A else A.map (·.add (L * el.size))) (cap - L) (((xs e).take (hiF h' (fun e => (xs e).length) e)).drop (loF l e)) ∨ _
        rw [hL, hH]
        by_cases h0 : H = L
        · left
          refine ⟨List.eq_nil_of_length_eq_zero (by rw [hlen]; omega), fun hA => ?_⟩
          have hA' : A = none := by
            split at hA
            · exact hA
            · simpa using hA
          rcases h4 with ⟨_, h4⟩ | ⟨b, o', cc, h4, _⟩
          · rw [h4 hA']; omega
          · rw [hA'] at h4; cases h4
        · right
          rcases h4 with ⟨h4, _⟩ | ⟨b, o', cc, rfl, k1, k2, k3, k4⟩
          · rw [h4] at c2; simp at c2; omega
          · rw [if_neg (by omega)]
            obtain ⟨F1, F2, d1, d2, hF, rfl, j1, j2⟩ := k3.split L
            obtain ⟨rfl, rfl⟩ := List.append_eq_nil_iff.1 hF.symm
            have hl1 := j1.len (Rz_len _ _ _ _)
            rw [List.length_take, Nat.min_eq_left (by omega)] at hl1
            obtain ⟨F3, F4, d3, d4, hF', rfl, j3, j4⟩ := j2.split (H - L)
            obtain ⟨rfl, rfl⟩ := List.append_eq_nil_iff.1 hF'.symm
            refine ⟨b, o' + L * el.size, d3, by simp [Addr.add_lit], k1, k2, ?_, ?_⟩
            · show RzL _ [] (((xs e).take (hiF h' (fun e => (xs e).length) e)).drop (loF l e)) d3
              rw [hL, hH, List.drop_take]; exact j3
            · rw [← hl1]; exact k4.right.left
  · rename_i r hx
    split at h <;> try (cases h; done)
    rename_i T el m hv xs hR
    split at h <;> try (cases h; done)
    rename_i ht
    obtain rfl := Option.some.inj h
    intro cx e g ac w V Fp Q h1 hok hA hd hp
    rw [OR.ok_holds] at hok
    rw [evs_one, rtU_cons, rtU_cons, rtU_nil]
    have hok : bndOk none h' (fun e => (xs e).length) e = true := hok
    obtain ⟨c1, c2, _, _⟩ := bndOk_spec hok
    obtain ⟨d1, d2⟩ := bl hp hA h1 hok
    obtain ⟨hu, hs⟩ := sliceOk_spec ht
    obtain ⟨inf, h5, h6⟩ := Option.map_eq_some_iff.1 hs
    have hrt : g.rt r = _ := (Lst.op_root hA mx hx (List.mem_singleton_self _)).trans (Lst.root_gr h1 hR)
    have hnew : g.rt s.nx = none := by have := hA.new 0 (by simp); simpa using this
    obtain ⟨R0, h3, h4⟩ := Lst.op_esat hp hA h1 mx hx
    rw [hrt] at h3
    obtain rfl := Option.some.inj h3
    have hvv := h4 (by simp)
    obtain ⟨cs, z1, z2⟩ := hp.mem.roots r _ hrt
    simp [Shows, Kt.isAgg, Root.ev] at z1
    subst z1
    generalize hH : hiF h' (fun e => (xs e).length) e = H at *
    rcases z2 with ⟨z3, z4, z5⟩ | ⟨b, cap, C, Fe, z3, z4, z5, z6, z7, z8⟩
    · have z4 : xs e = [] := z4
      have z5 := (List.cons.inj z5).1
      rw [z4] at c2 d2
      have hH0 : H = 0 := by simpa using c2
      subst hH0
      have := run_bounds (P := P) (isS := true) (Nat.le_refl 0) d1 d2 c1 c2 w
      refine wp_val (v := .slice none 0 0) (w' := w) ?_ (hp.renew hrt hnew (F := []) (cs := [.slice none 0 0]) (k := .sl T el) (m := .ow m) rfl rfl rfl (Nat.le_refl _) (fun _ _ _ => rfl) (by simp) (by simp) (by simp [Shows, Kt.isAgg]) (fun Sh' hK => .inl ⟨rfl, (by show List.take _ (xs e) = []; rw [z4]; exact List.take_nil), rfl⟩) hd)
      simp [execOp, ho, hvv, z5, Instr.sliceAt, run_underlying hu, Instr.slice, this, sizeOf, typeInfo, h5, loF]
    · have z3 : V r = .slice (some ⟨b, 0, none⟩) (xs e).length cap := (List.cons.inj z3).1
      have c2 : H ≤ (xs e).length := c2
      have z7m := z7.2
      have z7 : (xs e).length ≤ cap := z7.1
      have := run_bounds (P := P) (isS := true) z7 d1 d2 c1 c2 w
      obtain ⟨F1, F2, d3, d4, hFe, hdd, j1, j2⟩ := z8.split H
      have hnd := hp.mem.nodup r
      rw [z4, hFe] at hnd
      have hl3 := j1.len (Rz_len _ _ _ _)
      refine wp_val (v := .slice (some ⟨b, 0, none⟩) H cap) (w' := w) ?_ (hp.renew hrt hnew (F := b :: F1) (cs := [.slice (some ⟨b, 0, none⟩) H cap]) (k := .sl T el) (m := .ow m) rfl rfl rfl (Nat.le_refl _) (fun _ _ _ => rfl) (fun b' hb' => .inl (by rw [z4, hFe]; rcases List.mem_cons.1 hb' with rfl | hb'; exact List.mem_cons_self ..; exact List.mem_cons_of_mem _ (List.mem_append_left _ hb'))) ?_ (by simp [Shows, Kt.isAgg]) (fun Sh' hK => .inr ⟨b, cap, C, F1, ?_, rfl, z5, z6, ?_, ?_⟩) hd)
      · simp [execOp, ho, hvv, z3, Instr.sliceAt, run_underlying hu, Instr.slice, this, sizeOf, typeInfo, h5, loF]
        intro _; rfl
      · have := List.nodup_cons.1 hnd
        exact List.nodup_cons.2 ⟨fun h => this.1 (List.mem_append_left _ h), (List.nodup_append.1 this.2).1⟩
      · show [Value.slice _ H cap] = [Value.slice _ (List.length (List.take (hiF h' (fun e => (xs e).length) e) (xs e))) cap]
        rw [hH, List.length_take, Nat.min_eq_left c2]
      · show CapOk (List.length (List.take (hiF h' (fun e => (xs e).length) e) (xs e))) cap
        rw [hH, List.length_take]; exact ⟨by omega, z7m⟩
      · have e1 : ((xs e).take H).length = H := by rw [List.length_take, Nat.min_eq_left c2]
        have hxl : (Root.ev e ⟨.sl T el, .ow m, hv, xs⟩).x = xs e := rfl
        have hl3' : d3.length = H * el.size := by rw [hl3, hxl, e1]
        have : C.toList.take (List.length (List.take H (xs e)) * el.size) = d3 := by
          rw [e1]
          have e2 : (C.toList.take ((xs e).length * el.size)).take (H * el.size) = C.toList.take (H * el.size) := by
            rw [List.take_take, Nat.min_eq_left (Nat.mul_le_mul_right _ c2)]
          rw [← e2]
          have hdd : C.toList.take ((xs e).length * el.size) = d3 ++ d4 := hdd
          rw [hdd, take_len _ _ hl3']
        show RzL _ F1 (List.take (hiF h' (fun e => (xs e).length) e) (xs e)) (C.toList.take (List.length (List.take (hiF h' (fun e => (xs e).length) e) (xs e)) * el.size))
        rw [hH, this]
        exact j1.imp fun F' x c hF hr => Rz_keep hK _ _ _ _ _ (fun _ _ => rfl) hr
end
end Go.Lift

namespace Go.Lift
set_option linter.unusedVariables false
set_option linter.unusedSimpArgs false
section
variable {E : Type} {P : Program} {o : Oper} {s : Lst E} {gs : Gs}

/-! ### convert -/
def c_convert (P : Program) (s : Lst E) (gs : Gs) (src dst : TypeId) (x : Operand) : Option (OR E) := match s.op gs x with
  | some (.val (.int k) a) => match P.underlying dst, (P.underlying src).isSome with
    | some (.int k'), true => some (cVal (.val (.int k') fun e => k'.wrap (a e)))
    | _, _ => none
  | some (.val .str a) => match P.underlying dst, (P.underlying src).isSome with
    | some .string, true => some (cVal (.val .str a))
    | some (.slice T), true => match P.underlying T with
      | some (.int .u8) => some ⟨some fun e => decide ((a e).size ≤ 4611686018427387904), [(0, .val (.sl T (.int .u8)) fun e => sbytes (a e))], [], 0⟩
      | _ => none
    | _, _ => none
  | some (.val (.sl T (.int .u8)) xs) => match P.underlying src, P.underlying dst with
    | some (.slice T'), some .string => match P.underlying T' with
      | some (.int .u8) => some (cVal (.val .str fun e => bstr (xs e)))
      | _ => none
    | _, _ => none
  | some (.own r) => match s.root gs r with
    | some ⟨.sl T (.int .u8), .ow m, _, xs⟩ => match P.underlying src, P.underlying dst, m.free with
      | some (.slice T'), some .string, true => match P.underlying T' with
        | some (.int .u8) => some (cVal (.val .str fun e => bstr (xs e)))
        | _ => none
      | _, _, _ => none
    | _ => none
  | _ => none

theorem rzl_bytes {w : World} {Sh : Nat → Prop} {F : List Nat} : ∀ {xs : List Int} {cc : List Value}, RzL (Rz w Sh (.int .u8) .sh) F xs cc → cc = xs.map (Value.int .u8) := by
  intro xs cc h
  induction h with
  | nil => rfl
  | cons h t ih =>
    have h3 := (h.2.resolve_left fun h => by cases h.1).2
    rw [h3, ih]; rfl

theorem run_bytes {w : World} {src dst T : TypeId} (h1 : P.underlying src = some (.slice T)) (h2 : P.underlying T = some (.int .u8)) (h3 : P.underlying dst = some .string) {A : Option Addr} {cap : Nat} {xs : List Int} {Sh : Nat → Prop}
    (h4 : xs = [] ∨ ∃ b o cc, A = some ⟨b, o, none⟩ ∧ RzL (Rz w Sh (.int .u8) .sh) [] xs cc ∧ CellsAt w b o cc) : (convert src dst (.slice A xs.length cap)).run P w = .ok (.string (bstr xs)) w := by
  rw [run_convert_bytes_string w src dst T A _ _ h1 h2 h3]
  rcases h4 with rfl | ⟨b, o, cc, rfl, h5, h6⟩
  · cases A with
    | none => simp [Conv.bytesToString, bstr]
    | some a => exact run_bytesToString w a 0 cap [] (by simp [loadCells, loadCellsFrom])
  · have hcc := rzl_bytes h5
    exact run_bytesToString w _ _ cap xs (by rw [← hcc]; exact run_loadCells' b o cc h6 (by rw [hcc]; simp))

theorem snd_convert {src dst : TypeId} {x : Operand} {r : OR E} (ho : o.op = .convert src dst x) (h : c_convert P s gs src dst x = some r) : Snd P o s gs r := by
  unfold c_convert at h
  have mx : x ∈ o.op.operands := by simp [ho, Op.operands]
  split at h <;> try (cases h; done)
  · rename_i k a hx
    split at h <;> try (cases h; done)
    rename_i k' hd hs
    obtain rfl := Option.some.inj h
    obtain ⟨d, hs⟩ := Option.isSome_iff_exists.1 hs
    refine Snd.value fun cx e g ac w V Fp h1 hok hA hp => ⟨_, ?_, esat_int _ _⟩
    simp [execOp, ho, (Lst.op_esat hp hA h1 mx hx).int, convert, run_underlying hs, run_underlying hd, Conv.intToInt]
  · rename_i a hx
    split at h <;> try (cases h; done)
    · rename_i hd hs
      obtain rfl := Option.some.inj h
      obtain ⟨d, hs⟩ := Option.isSome_iff_exists.1 hs
      refine Snd.value fun cx e g ac w V Fp h1 hok hA hp => ⟨_, ?_, esat_str _⟩
      simp [execOp, ho, (Lst.op_esat hp hA h1 mx hx).str, convert, run_underlying hs, run_underlying hd]
    · rename_i T hd hs
      split at h <;> try (cases h; done)
      rename_i hT
      obtain rfl := Option.some.inj h
      obtain ⟨d, hs⟩ := Option.isSome_iff_exists.1 hs
      intro cx e g ac w V Fp Q h1 hok hA hdst hp
      rw [evs_one, rtU_nil]
      have hsz : (a e).size ≤ 4611686018427387904 := of_decide_eq_true hok
      have hrun := Lib.run_convert_string_bytes w src dst T (a e) hs hd hT
      have hst : Step cx g.rt g.rt V V Fp Fp w (Lib.bytesWorld w T (a e)) (fun _ => False) :=
        ⟨rfl, rfl, rfl, by rw [Lib.bytesWorld_size]; omega, fun b hb _ => Lib.bytesWorld_at_old w T (a e) b hb, fun r _ => ⟨rfl, rfl, rfl⟩, fun _ h => h.elim, fun _ h => h.elim, fun _ _ h => h.elim, fun _ h => h.elim, fun _ _ h => h.elim, fun _ h => h.elim⟩
      refine wp_val (w' := Lib.bytesWorld w T (a e)) (v := .slice (some ⟨w.heap.size, 0, none⟩) (a e).size (grownCap w (a e).size 0 T)) (by simp [execOp, ho, (Lst.op_esat hp hA h1 mx hx).str, hrun]) (GSat.step hp.defers hp.size hp.mem hp.ents hst hdst fun i ent hi => ?_)
      unfold one at hi
      split at hi <;> try (cases hi; done)
      rename_i h0; subst h0
      obtain rfl := Option.some.inj hi
      refine ⟨_, rfl, _, rfl, rfl, .inr ⟨by simp, some ⟨w.heap.size, 0, none⟩, grownCap w (a e).size 0 T, ?_, ?_, .inr ⟨w.heap.size, 0, byteCells (a e), rfl, ⟨.inr (.inr hp.mem.size), fun r hr => Nat.lt_irrefl _ (hp.mem.lt hr)⟩, by rw [Lib.bytesWorld_size]; omega, byteCells_rz _, ?_⟩⟩⟩
      · rw [sbytes_length]
      · rw [sbytes_length]; exact ⟨grownCap_ge w _ _ _, grownCap_le_maxLen w _ _ _ (by unfold maxLen; omega)⟩
      · intro j v hj
        rw [Nat.zero_add]
        have hjl : j < (a e).size := by
          rcases Nat.lt_or_ge j (a e).size with h' | h'
          · exact h'
          · rw [List.getElem?_eq_none (by rw [byteCells_length]; exact h')] at hj; cases hj
        rw [Lib.bytesWorld_cell w T (a e) j hjl, ← hj]
        unfold byteCells
        rw [List.getElem?_map]
        have : j < (a e).data.toList.length := by rw [Array.length_toList]; exact hjl
        rw [List.getElem?_eq_getElem this, List.getD_eq_getElem?_getD, List.getElem?_eq_getElem this]
        rfl
  · rename_i T xs hx
    split at h <;> try (cases h; done)
    rename_i T' hs hd
    split at h <;> try (cases h; done)
    rename_i hT
    obtain rfl := Option.some.inj h
    refine Snd.value fun cx e g ac w V Fp h1 hok hA hp => ⟨_, ?_, esat_str _⟩
    obtain ⟨A, cap, h2, h3, h4⟩ := (Lst.op_esat hp hA h1 mx hx).sl
    have := run_bytes (w := w) (cap := cap) hs hT hd (Sh := cx.Sh Fp) (h4.imp And.left fun ⟨b, o, cc, k1, k2, k3, k4, k5⟩ => ⟨b, o, cc, k1, k4, k5⟩)
    simp [execOp, ho, h2, this]
  · rename_i r hx
    split at h <;> try (cases h; done)
    rename_i T m hv xs hR
    split at h <;> try (cases h; done)
    rename_i T' hs hd hm
    split at h <;> try (cases h; done)
    rename_i hT
    obtain rfl := Option.some.inj h
    refine Snd.value fun cx e g ac w V Fp h1 hok hA hp => ⟨_, ?_, esat_str _⟩
    have hrt : g.rt r = _ := (Lst.op_root hA mx hx (List.mem_singleton_self _)).trans (Lst.root_gr h1 hR)
    obtain ⟨R0, h3, h4⟩ := Lst.op_esat hp hA h1 mx hx
    rw [hrt] at h3
    obtain rfl := Option.some.inj h3
    have hvv := h4 (by simp)
    obtain ⟨cs, z1, z2⟩ := hp.mem.roots r _ hrt
    simp [Shows, Kt.isAgg, Root.ev] at z1
    subst z1
    rcases z2 with ⟨z3, z4, z5⟩ | ⟨b, cap, C, Fe, z3, z4, z5, z6, z7, z8⟩
    · have z4 : xs e = [] := z4
      have z5 : V r = .slice none (xs e).length 0 := by rw [z4]; exact (List.cons.inj z5).1
      have := run_bytes (w := w) (A := none) (cap := 0) (Sh := cx.Sh Fp) hs hT hd (xs := xs e) (.inl z4)
      simp [execOp, ho, hvv, z5, this]
    · have z3 : V r = .slice (some ⟨b, 0, none⟩) (xs e).length cap := (List.cons.inj z3).1
      have z8 : RzL _ Fe (xs e) (C.toList.take ((xs e).length * 1)) := z8
      have := run_bytes (w := w) (A := some ⟨b, 0, none⟩) (cap := cap) (Sh := cx.Sh Fp) hs hT hd (xs := xs e) (.inr ⟨b, 0, _, rfl, (z8.free fun F' x c hr => Rz_free _ _ _ _ _ hm hr).2, CellsAt_block z5⟩)
      simp [execOp, ho, hvv, z3, this]

/-! ### makeSlice -/
theorem made_rep {z : List Value} {k : Nat} (hz : z.length = k) (hk : 0 < k) : ∀ n, (madeCells z.toArray (n * k)).toList = (List.replicate n z).flatten := by
  intro n
  apply List.ext_getElem?
  intro j
  unfold madeCells
  rw [Array.toList_map, Array.toList_range, List.getElem?_map]
  by_cases hj : j < n * k
  · rw [List.getElem?_range hj]
    simp only [Option.map_some, List.size_toArray, hz]
    have hm : j % k < k := Nat.mod_lt _ hk
    have : (List.replicate n z).flatten[j]? = z[j % k]? := by
      induction n generalizing j with
      | zero => omega
      | succ n ih =>
        rw [List.replicate_succ, List.flatten_cons]
        by_cases h : j < k
        · rw [List.getElem?_append_left (by omega), Nat.mod_eq_of_lt h]
        · have hj' : j < n * k + k := by rw [Nat.add_mul, Nat.one_mul] at hj; exact hj
          rw [List.getElem?_append_right (by omega), hz, ih (j - k) (by omega) (Nat.mod_lt _ hk), ← Nat.mod_eq_sub_mod (by omega)]
    rw [this, List.getElem?_eq_getElem (by omega)]
    congr 1
    simp [hz, hm]
  · rw [List.getElem?_eq_none (by simp; omega), List.getElem?_eq_none (by simp [hz]; omega)]
    rfl

def c_makeSlice (P : Program) (s : Lst E) (gs : Gs) (t : TypeId) (l c : Operand) (k : Kt) : Option (OR E) := match elemOf' P t, s.op gs l, s.op gs c with
  | some T, some (.val (.int _) f), some (.val (.int _) h) => if sliceOk P t T k && zeroOk P T k && decide (0 < k.size) then
      some ⟨some fun e => decide (0 ≤ f e) && decide (f e ≤ h e) && decide ((bytesOf' P T : Int) * h e ≤ 281474976710656) && decide (h e ≤ 9223372036854775807), [(0, .own s.nx)], [(s.nx, some ⟨.sl T k, .ow (zm k), 0, fun e => List.replicate (f e).toNat k.dflt⟩)], 1⟩
    else none
  | _, _, _ => none

theorem rep_append {α : Type} (a b : Nat) (x : α) : List.replicate (a + b) x = List.replicate a x ++ List.replicate b x := by
  rw [List.replicate_append_replicate]

theorem snd_makeSlice {t : TypeId} {l c : Operand} {k : Kt} {r : OR E} (ho : o.op = .makeSlice t l c) (h : c_makeSlice P s gs t l c k = some r) : Snd P o s gs r := by
  unfold c_makeSlice at h
  have ml : l ∈ o.op.operands := by simp [ho, Op.operands]
  have mc : c ∈ o.op.operands := by simp [ho, Op.operands]
  split at h <;> try (cases h; done)
  rename_i T kl f kc hh hT hl hc
  split at h <;> try (cases h; done)
  rename_i ht
  simp only [Bool.and_eq_true, decide_eq_true_eq] at ht
  obtain ⟨⟨ht, hz⟩, hpos⟩ := ht
  obtain rfl := Option.some.inj h
  intro cx e g a w V Fp Q h1 hok hA hd hp
  rw [evs_one, rtU_cons, rtU_nil]
  have hok : (decide (0 ≤ f e) && decide (f e ≤ hh e) && decide ((bytesOf' P T : Int) * hh e ≤ 281474976710656) && decide (hh e ≤ 9223372036854775807)) = true := hok
  simp only [Bool.and_eq_true, decide_eq_true_eq] at hok
  obtain ⟨⟨⟨b1, b2⟩, b3⟩, b4⟩ := hok
  have b1 : (0 : Int) ≤ f e := b1
  have b2 : LE.le (α := Int) (f e) (hh e) := b2
  have b4 : LE.le (α := Int) (hh e) 9223372036854775807 := b4
  obtain ⟨hu, hs⟩ := sliceOk_spec ht
  obtain ⟨i, z, cs, h3, h4, h5, h6⟩ := zeroOk_spec hz
  have hsz : i.size = k.size := by rw [h3] at hs; simpa using hs
  have hby : bytesOf' P T = i.bytes := by unfold bytesOf'; rw [h3]; rfl
  rw [hby] at b3
  have hrz : ∀ w Sh, Rz w Sh k (zm k) [] k.dflt cs := fun w Sh => Rz_zero w Sh k cs h5
  have hcl := Rz_len _ _ _ _ _ _ _ (hrz w (fun _ => True))
  have hrun := run_make (P := P) w t T i z hu h3 h4 kl kc (f e) (hh e) b1 b2 b3 b4
  rw [hsz, h6] at hrun
  refine wp_val (v := .slice (some ⟨w.heap.size, 0, none⟩) (f e).toNat (hh e).toNat) (w' := w.alloc (.cells (madeCells cs.toArray ((hh e).toNat * k.size)) T)) (by simp [execOp, ho, (Lst.op_esat hp hA h1 ml hl).int, (Lst.op_esat hp hA h1 mc hc).int, hrun]) ?_
  refine hp.fresh (by have := hA.new 0 (by simp); simpa using this) (k := .sl T k) (m := .ow (zm k)) (x := List.replicate (f e).toNat k.dflt) (F := [w.heap.size]) (v := .slice (some ⟨w.heap.size, 0, none⟩) (f e).toNat (hh e).toNat) (w' := w.alloc (.cells (madeCells cs.toArray ((hh e).toNat * k.size)) T))
      (cs := [.slice (some ⟨w.heap.size, 0, none⟩) (f e).toNat (hh e).toNat]) rfl rfl rfl (by simp) (fun b hb => RowKit.Below.heap_alloc _ _ _ hb) (by simp) (by simp) (by simp [Shows, Kt.isAgg]) (fun Sh' hK => ?_) hd
  refine .inr ⟨w.heap.size, (hh e).toNat, _, [], by simp, rfl, heap_alloc_new' _ _, size_madeCells _ _, by simp only [List.length_replicate]; exact ⟨by omega, by omega⟩, ?_⟩
  rw [made_rep hcl hpos, List.length_replicate]
  have e1 : (hh e).toNat = (f e).toNat + ((hh e).toNat - (f e).toNat) := by omega
  rw [e1, rep_append, List.flatten_append, take_len _ _ (by simp [hcl])]
  exact RzL.rep (hrz _ _) _
end
end Go.Lift

namespace Go.Lift
set_option linter.unusedVariables false
set_option linter.unusedSimpArgs false

/-! ### What a function is -/
def HL : List Kt → Type
  | [] => Unit
  | k :: l => k.T × HL l
inductive PM where
  | val
  | mut (m : Mk)
  | tak (m : Mk)
  deriving DecidableEq
inductive RM where
  | val
  | own (m : Mk)
  deriving DecidableEq
structure Sig where
  ps : List (Kt × PM)
  rs : List (Kt × RM)
  deriving DecidableEq
def mutsOf : List (Kt × PM) → List (Kt × Mk)
  | [] => []
  | (k, .mut m) :: l => (k, m) :: mutsOf l
  | (_, .val) :: l => mutsOf l
  | (_, .tak _) :: l => mutsOf l
structure Spec where
  sig : Sig
  den : Nat → HL (sig.ps.map (·.1)) → Option (HL (sig.rs.map (·.1)) × HL ((mutsOf sig.ps).map (·.1)))

def ArgsR (w : World) (S : Nat → Prop) : (ps : List (Kt × PM)) → HL (ps.map (·.1)) → List Value → List Nat → Prop
  | [], _, vs, F => vs = [] ∧ F = []
  | (k, .val) :: ps, d, vs, F => ∃ v vs', vs = v :: vs' ∧ (∃ cs, Shows k v cs ∧ Rz w S k .sh [] d.1 cs) ∧ ArgsR w S ps d.2 vs' F
  | (k, .mut m) :: ps, d, vs, F => ∃ v vs' F1 F2, vs = v :: vs' ∧ F = F1 ++ F2 ∧ (∃ cs, Shows k v cs ∧ Rz w S k m F1 d.1 cs) ∧ ArgsR w S ps d.2 vs' F2
  | (k, .tak m) :: ps, d, vs, F => ∃ v vs' F1 F2, vs = v :: vs' ∧ F = F1 ++ F2 ∧ (∃ cs, Shows k v cs ∧ Rz w S k m F1 d.1 cs) ∧ ArgsR w S ps d.2 vs' F2
def ResR (w : World) (S : Nat → Prop) : (rs : List (Kt × RM)) → HL (rs.map (·.1)) → List Value → List Nat → Prop
  | [], _, vs, F => vs = [] ∧ F = []
  | (k, .val) :: rs, d, vs, F => ∃ v vs', vs = v :: vs' ∧ (∃ cs, Shows k v cs ∧ Rz w S k .sh [] d.1 cs) ∧ ResR w S rs d.2 vs' F
  | (k, .own m) :: rs, d, vs, F => ∃ v vs' F1 F2, vs = v :: vs' ∧ F = F1 ++ F2 ∧ (∃ cs, Shows k v cs ∧ Rz w S k m F1 d.1 cs) ∧ ResR w S rs d.2 vs' F2
/-- What was handed in to be changed: the same values. -/
def MutR (w : World) (S : Nat → Prop) : (ps : List (Kt × PM)) → HL ((mutsOf ps).map (·.1)) → List Value → List Nat → Prop
  | [], _, vs, F => F = []
  | (k, .val) :: ps, d, vs, F => ∃ v vs', vs = v :: vs' ∧ MutR w S ps d vs' F
  | (k, .tak _) :: ps, d, vs, F => ∃ v vs', vs = v :: vs' ∧ MutR w S ps d vs' F
  | (k, .mut m) :: ps, d, vs, F => ∃ v vs' F1 F2, vs = v :: vs' ∧ F = F1 ++ F2 ∧ (∃ cs, Shows k v cs ∧ Rz w S k m F1 d.1 cs) ∧ MutR w S ps d.2 vs' F2

def tup : List Value → Value
  | [v] => v
  | vs => .tuple vs.toArray

def After (S : Nat → Prop) (F : List Nat) (n : Nat) (F' : List Nat) (b : Nat) : Prop := (S b ∨ b ∈ F ∨ n ≤ b) ∧ b ∉ F'

/-- **WHAT A FUNCTION IS**: where 'den' has an answer, the call comes to it. Gl: what is always so of the world (global data); it must stand whatever is done above its blocks. -/
def FnOk (P : Program) (Gl : World → Prop) (f : FuncId) (sp : Spec) : Prop :=
  ∀ k d r, sp.den k d = some r → ∀ (w : World) (S : Nat → Prop) vs F, (∀ w', Fr w w' (· ∈ F) → Gl w') → ArgsR w S sp.sig.ps d vs F → F.Nodup → (∀ b ∈ F, ¬ S b) →
    Calls P f vs.toArray w fun e w' => ∃ us Fr' Fm, e = .returned (tup us) ∧ Fr w w' (· ∈ F) ∧ (Fr' ++ Fm).Nodup ∧ (∀ b ∈ Fr' ++ Fm, b ∈ F ∨ w.heap.size ≤ b) ∧
      ResR w' (After S F w.heap.size (Fr' ++ Fm)) sp.sig.rs r.1 us Fr' ∧ MutR w' (After S F w.heap.size (Fr' ++ Fm)) sp.sig.ps r.2 vs Fm

/-! ### Nothing that is not owned is led to -/
def tight : Kt → Mk → Bool
  | .pair a b, m => tight a m.l && tight b m.r
  | .arr _ e, m => tight e m.e
  | .sl _ e, .ow m => tight e m
  | .ptr _ e, .ow m => tight e m
  | .sl _ _, _ => false
  | .ptr _ _, _ => false
  | .fn _ e, _ => tight e .sh
  | .ifc _ e, m => tight e m.e
  | .map _ _, .ow _ => true
  | .map _ _, _ => false
  | .win s, m => tight s m
  | .opt b s, m => tight s m
  | _, _ => true
theorem Rz_tight {w : World} {S S' : Nat → Prop} : ∀ (k : Kt) (m : Mk) (F : List Nat) (x : k.T) (cs : List Value), tight k m = true → Rz w S k m F x cs → Rz w S' k m F x cs
  | .int _, m, F, x, cs, _, h => h
  | .bool, m, F, x, cs, _, h => h
  | .str, m, F, x, cs, _, h => h
  | .unit, m, F, x, cs, _, h => h
  | .pair a b, m, F, x, cs, ht, h => by
    obtain ⟨F1, F2, c1, c2, rfl, rfl, h1, h2⟩ := h
    simp only [tight, Bool.and_eq_true] at ht
    exact ⟨F1, F2, c1, c2, rfl, rfl, Rz_tight a _ _ _ _ ht.1 h1, Rz_tight b _ _ _ _ ht.2 h2⟩
  | .arr n e, m, F, xs, cs, ht, h => ⟨h.1, h.2.imp fun F' x c _ hr => Rz_tight e _ _ _ _ ht hr⟩
  | .sl T e, .ow m, F, xs, cs, ht, h => by
    rcases h with h | ⟨g, cap, C, Fe, rfl, rfl, hh, hc, hl, hr⟩
    · exact .inl h
    · exact .inr ⟨g, cap, C, Fe, rfl, rfl, hh, hc, hl, hr.imp fun F' x c _ hr => Rz_tight e m _ _ _ ht hr⟩
  | .sl T e, .sh, F, xs, cs, ht, h => by cases ht
  | .sl T e, .ho, F, xs, cs, ht, h => by cases ht
  | .sl T e, .pr _ _, F, xs, cs, ht, h => by cases ht
  | .ptr T e, .ow m, F, x, cs, ht, h => by
    obtain ⟨g, C, Fe, rfl, rfl, hh, hr⟩ := h
    exact ⟨g, C, Fe, rfl, rfl, hh, Rz_tight e m _ _ _ ht hr⟩
  | .ptr T e, .sh, F, xs, cs, ht, h => by cases ht
  | .ptr T e, .ho, F, xs, cs, ht, h => by cases ht
  | .ptr T e, .pr _ _, F, xs, cs, ht, h => by cases ht
  | .unk, m, F, x, cs, _, h => h
  | .bld T e, .ow m, F, x, cs, _, h => h
  | .map a b, .ow m, F, x, cs, _, h => h
  | .map a b, .sh, F, x, cs, ht, h => by cases ht
  | .map a b, .ho, F, x, cs, ht, h => by cases ht
  | .map a b, .pr _ _, F, x, cs, ht, h => by cases ht
  | .bld T e, .sh, F, x, cs, _, h => h
  | .bld T e, .ho, F, x, cs, _, h => h
  | .bld T e, .pr _ _, F, x, cs, _, h => h
  | .ifc t e, m, F, x, cs, ht, h => by
    rcases h with h | ⟨hm, h | ⟨y, v, cs', h1, h2, h3, h4⟩⟩
    · exact .inl h
    · exact .inr ⟨hm, .inl h⟩
    · exact .inr ⟨hm, .inr ⟨y, v, cs', h1, h2, h3, Rz_tight e _ _ _ _ ht h4⟩⟩
  | .fnv, m, F, x, cs, _, h => h
  | .win s, m, F, x, cs, ht, h => by
    rcases h with h | ⟨hm, A, n, cap, h1, h2, hr⟩
    · exact .inl h
    · exact .inr ⟨hm, A, n, cap, h1, h2, Rz_tight s m _ _ _ ht hr⟩
  | .opt b s, m, F, x, cs, ht, h => h.imp id fun ⟨y, h1, h2⟩ => ⟨y, h1, Rz_tight s m _ _ _ ht h2⟩
  | .fn f e, m, F, x, cs, ht, h => ⟨h.1, h.2.imp id fun ⟨hm, vs, cc, h1, h2, h3⟩ => ⟨hm, vs, cc, h1, h2, Rz_tight e _ _ _ _ ht h3⟩⟩

/-- The same header: what lies right behind it lies there still. -/
theorem adr_same {w w' : World} {S S' : Nat → Prop} {k : Kt} {m m' : Mk} {F F' : List Nat} {x x' : k.T} {v : Value} (h : Rz w S k (.ow m) F x [v]) (h' : Rz w' S' k (.ow m') F' x' [v]) {p : List (St Nat)} (hp : shal k p = true) : adr w' k none [v] p = adr w k none [v] p := by
  cases p with
  | nil => cases k <;> simp [shal] at hp
  | cons s p =>
    cases k <;> cases s <;> try (simp [shal] at hp; done)
    case sl.ix T e i =>
      rcases h with ⟨_, _, h1⟩ | ⟨g, cap, C, Fe, h1, h2, hh, _⟩
      · have := (List.cons.inj h1).1
        subst this
        simp [adr]
      · have e1 := (List.cons.inj h1).1
        subst e1
        rcases h' with ⟨_, _, h3⟩ | ⟨g', cap', C', Fe', h3, h4, hh', _⟩
        · have := (List.cons.inj h3).1; cases this
        · obtain ⟨e2, _, _⟩ := Value.slice.inj (List.cons.inj h3).1
          have e3 : g = g' := congrArg Addr.block (Option.some.inj e2)
          subst e3
          simp only [adr, hh, hh']
          rw [adr_flat _ _ _ _ _ hp, adr_flat _ _ _ _ _ hp]
    case win.ix s i =>
      cases s <;> try (simp [shal] at hp; done)
      obtain ⟨_, A, n, cap, hv, _, hz⟩ := h.resolve_left fun h => by cases h.1
      obtain ⟨_, A', n', cap', hv', _, hz'⟩ := h'.resolve_left fun h => by cases h.1
      obtain rfl := (List.cons.inj hv).1
      obtain ⟨rfl, _⟩ := Value.slice.inj (List.cons.inj hv').1
      rcases hz with ⟨_, _, hc⟩ | ⟨g, cap, C, Fe, hc, _, hh, _⟩
      · obtain ⟨rfl, _⟩ := Value.slice.inj (List.cons.inj hc).1
        simp [adr]
      · obtain ⟨rfl, _⟩ := Value.slice.inj (List.cons.inj hc).1
        rcases hz' with ⟨_, _, hc'⟩ | ⟨g', cap', C', Fe', hc', _, hh', _⟩
        · obtain ⟨h4, _⟩ := Value.slice.inj (List.cons.inj hc').1; cases h4
        · obtain ⟨e2, _⟩ := Value.slice.inj (List.cons.inj hc').1
          have e3 : g = g' := congrArg Addr.block (Option.some.inj e2)
          subst e3
          simp only [adr, hh, hh']
          rw [adr_flat _ _ _ _ _ hp, adr_flat _ _ _ _ _ hp]
    case ptr.ad T e =>
      obtain ⟨g, C, Fe, h1, h2, hh, _⟩ := h
      have e1 := (List.cons.inj h1).1
      subst e1
      obtain ⟨g', C', Fe', h3, h4, hh', _⟩ := h'
      have e2 := Value.pointer.inj (List.cons.inj h3).1
      have e3 : g = g' := congrArg Addr.block (Option.some.inj e2)
      subst e3
      simp only [adr, hh, hh']
      rw [adr_flat _ _ _ _ _ hp, adr_flat _ _ _ _ _ hp]

/-! ### A step of many roots -/
structure NR where
  r : Nat
  R : GR
  v : Value
  F : List Nat
def lookR (al : List NR) (q : Nat) : Option NR := al.find? (·.r == q)
def rtA (rt : Nat → Option GR) (al : List NR) : Nat → Option GR := fun q => match lookR al q with | some x => some x.R | none => rt q
def vA (V : Nat → Value) (al : List NR) : Nat → Value := fun q => match lookR al q with | some x => x.v | none => V q
def fA (Fp : Nat → List Nat) (al : List NR) : Nat → List Nat := fun q => match lookR al q with | some x => x.F | none => Fp q

theorem lookR_some {al : List NR} {q : Nat} {x : NR} (h : lookR al q = some x) : x ∈ al ∧ x.r = q := by
  unfold lookR at h
  exact ⟨List.mem_of_find?_eq_some h, by have := List.find?_some h; simpa using this⟩
theorem lookR_none {al : List NR} {q : Nat} (h : lookR al q = none) : ∀ x ∈ al, x.r ≠ q := by
  unfold lookR at h
  rw [List.find?_eq_none] at h
  intro x hx
  have := h x hx
  simpa using this
theorem disj_of {al : List NR} (hnd : (al.flatMap (·.F)).Nodup) : ∀ {x y : NR}, x ∈ al → y ∈ al → x.r ≠ y.r → ∀ b ∈ x.F, b ∉ y.F := by
  induction al with
  | nil => intro x y hx; cases hx
  | cons z al ih =>
    rw [List.flatMap_cons, List.nodup_append] at hnd
    intro x y hx hy hne b hb hb'
    rcases List.mem_cons.1 hx with h1 | h1 <;> rcases List.mem_cons.1 hy with h2 | h2
    · exact hne (by rw [h1, h2])
    · rw [h1] at hb
      exact hnd.2.2 b hb b (List.mem_flatMap.2 ⟨y, h2, hb'⟩) rfl
    · rw [h2] at hb'
      exact hnd.2.2 b hb' b (List.mem_flatMap.2 ⟨x, h1, hb⟩) rfl
    · exact ih hnd.2.1 h1 h2 hne b hb hb'
theorem nodup_of {al : List NR} (hnd : (al.flatMap (·.F)).Nodup) {x : NR} (hx : x ∈ al) : x.F.Nodup := by
  induction al with
  | nil => cases hx
  | cons z al ih =>
    rw [List.flatMap_cons, List.nodup_append] at hnd
    rcases List.mem_cons.1 hx with rfl | hx
    · exact hnd.1
    · exact ih hnd.2.1 hx

section
variable {P : Program} {cx : Cx} {g : G} {a : Act} {w : World} {V : Nat → Value} {Fp : Nat → List Nat} {o : Oper} {Q : Exit → Act → World → Prop}

theorem Pre.gs (h : Pre cx g a w V Fp) : GSat cx g a w := ⟨h.defers, h.size, V, Fp, h.mem, h.ents⟩
theorem Pre.manyS (h : Pre cx g a w V Fp) (al : List NR) {w' : World} {F : List Nat} (hw : Fr w w' (· ∈ F)) (hF : ∀ b ∈ F, ∃ x ∈ al, b ∈ Fp x.r) (hnew : ∀ x ∈ al, ∀ b ∈ x.F, w.heap.size ≤ b ∨ ∃ y ∈ al, b ∈ Fp y.r) (hnd : (al.flatMap (·.F)).Nodup)
    (hdead : ∀ x ∈ al, x.R = none → x.F = []) (hrz : ∀ x ∈ al, ∀ R, x.R = some R → Kp w (cx.Sh Fp) w' (cx.Sh (fA Fp al)) → ∃ cs, Shows R.k x.v cs ∧ Rz w' (cx.Sh (fA Fp al)) R.k R.m x.F R.x cs)
    (hkeep : ∀ x ∈ al, lookR al x.r = some x → Kp w (cx.Sh Fp) w' (cx.Sh (fA Fp al)) → RKeep V (vA V al) Fp (fA Fp al) w w' x.r (g.rt x.r) (some x.R)) {d : Option Tmp} (hd : ∀ t, d = some t → cx.T t) {v : Value} {es : Nat → Option GEnt}
    (hes : ∀ i ent, es i = some ent → Kp w (cx.Sh Fp) w' (cx.Sh (fA Fp al)) → ∃ u, part v i = some u ∧ ESat cx (rtA g.rt al) (vA V al) (fA Fp al) w' ent u) : Pre cx (g.put d es (rtA g.rt al)) (a.put d v) w' (vA V al) (fA Fp al) := by
  have hlook : ∀ x ∈ al, ∃ y, lookR al x.r = some y := by
    intro x hx
    cases hl : lookR al x.r with
    | some y => exact ⟨y, rfl⟩
    | none => exact absurd rfl (lookR_none hl x hx)
  have hkp : Kp w (cx.Sh Fp) w' (cx.Sh (fA Fp al)) := by
    refine ⟨hw.size, fun b hb hlt => ⟨hw.frame b hlt fun hbF => ?_, hb.1, fun r hr => ?_⟩⟩
    · obtain ⟨x, _, hx⟩ := hF b hbF
      exact hb.2 _ hx
    · unfold fA at hr
      split at hr
      · rename_i x hx
        rcases hnew x (lookR_some hx).1 b hr with h1 | ⟨y, _, h1⟩
        · omega
        · exact hb.2 _ h1
      · exact hb.2 r hr
  have hmain := step_pre (w' := w') (V' := vA V al) (Fp' := fA Fp al) (A := fun q => ∃ x, lookR al q = some x) (d := d) (v := v) (es := es) h.defers h.size h.mem h.ents (rt' := rtA g.rt al) ?_ hd ?_
  · exact ⟨hmain.1, hmain.2.1, hmain.2.2.1, hmain.2.2.2⟩
  rotate_left
  · exact fun i ent hi => hes i ent hi hkp
  refine
    ⟨hw.os, hw.tape, hw.output, hw.size, fun b hb hs => hw.frame b hb fun hbF => ?_, fun q hq => ?_, fun q hq b hb => ?_, fun q hq => ?_, fun q q' hq hq' hne b hb hb' => ?_, fun q hq hn => ?_, fun q R hq hR hK => ?_, fun q hq => ?_⟩
  · obtain ⟨x, hx, hb'⟩ := hF b hbF
    exact hs x.r (hlook x hx) hb'
  · have hq : lookR al q = none := by
      cases hl : lookR al q with
      | none => rfl
      | some y => exact absurd ⟨y, hl⟩ hq
    simp only [rtA, vA, fA, hq]
    exact ⟨trivial, trivial, trivial⟩
  · obtain ⟨x, hx⟩ := hq
    simp only [fA, hx] at hb
    refine (hnew x (lookR_some hx).1 b hb).imp id ?_
    rintro ⟨y, hy, hb'⟩
    exact ⟨y.r, hlook y hy, hb'⟩
  · obtain ⟨x, hx⟩ := hq
    simp only [fA, hx]
    exact nodup_of hnd (lookR_some hx).1
  · obtain ⟨x, hx⟩ := hq
    obtain ⟨y, hy⟩ := hq'
    simp only [fA, hx] at hb
    simp only [fA, hy] at hb'
    obtain ⟨x1, x2⟩ := lookR_some hx
    obtain ⟨y1, y2⟩ := lookR_some hy
    exact disj_of hnd x1 y1 (by rw [x2, y2]; exact hne) b hb hb'
  · obtain ⟨x, hx⟩ := hq
    simp only [fA, hx]
    simp only [rtA, hx] at hn
    refine hdead x (lookR_some hx).1 ?_
    cases hR : x.R with
    | none => rfl
    | some R => exact absurd (by rw [hR]) (hn R)
  · obtain ⟨x, hx⟩ := hq
    simp only [rtA, hx] at hR
    simp only [vA, hx]
    have := hrz x (lookR_some hx).1 R (Option.some.inj hR) hK
    simp only [fA] at this ⊢
    rw [hx]
    exact this
  · obtain ⟨x, hx⟩ := hq
    obtain ⟨x1, x2⟩ := lookR_some hx
    have := hkeep x x1 (by rw [x2]; exact hx) hkp
    rw [x2] at this
    simp only [rtA, hx]
    exact this
theorem Pre.many (h : Pre cx g a w V Fp) (al : List NR) {w' : World} {F : List Nat} (hw : Fr w w' (· ∈ F)) (hF : ∀ b ∈ F, ∃ x ∈ al, b ∈ Fp x.r) (hnew : ∀ x ∈ al, ∀ b ∈ x.F, w.heap.size ≤ b ∨ ∃ y ∈ al, b ∈ Fp y.r) (hnd : (al.flatMap (·.F)).Nodup)
    (hdead : ∀ x ∈ al, x.R = none → x.F = []) (hrz : ∀ x ∈ al, ∀ R, x.R = some R → Kp w (cx.Sh Fp) w' (cx.Sh (fA Fp al)) → ∃ cs, Shows R.k x.v cs ∧ Rz w' (cx.Sh (fA Fp al)) R.k R.m x.F R.x cs)
    (hkeep : ∀ x ∈ al, lookR al x.r = some x → Kp w (cx.Sh Fp) w' (cx.Sh (fA Fp al)) → RKeep V (vA V al) Fp (fA Fp al) w w' x.r (g.rt x.r) (some x.R)) {d : Option Tmp} (hd : ∀ t, d = some t → cx.T t) {v : Value} {es : Nat → Option GEnt}
    (hes : ∀ i ent, es i = some ent → Kp w (cx.Sh Fp) w' (cx.Sh (fA Fp al)) → ∃ u, part v i = some u ∧ ESat cx (rtA g.rt al) (vA V al) (fA Fp al) w' ent u) : GSat cx (g.put d es (rtA g.rt al)) (a.put d v) w' := (h.manyS al hw hF hnew hnd hdead hrz hkeep hd hes).gs

end
end Go.Lift

namespace Go.Lift
set_option linter.unusedVariables false
set_option linter.unusedSimpArgs false

theorem Mem.fr {cx : Cx} {rt : Nat → Option GR} {V : Nat → Value} {Fp : Nat → List Nat} {w : World} (h : Mem cx rt V Fp w) : Fr cx.w0 w cx.M := ⟨h.os, h.tape, h.output, h.size, h.frame⟩
theorem Mem.gl {cx : Cx} {rt : Nat → Option GR} {V : Nat → Value} {Fp : Nat → List Nat} {w : World} (h : Mem cx rt V Fp w) {w' : World} {F : List Nat} (hF : ∀ b ∈ F, cx.M b ∨ cx.w0.heap.size ≤ b) (hw : Fr w w' (· ∈ F)) : cx.Gl w' :=
  cx.gl w' ⟨hw.os.trans h.os, hw.tape.trans h.tape, hw.output.trans h.output, Nat.le_trans h.size hw.size, fun b hb hm => (hw.frame b (Nat.lt_of_lt_of_le hb h.size) fun hbF => (hF b hbF).elim hm (by omega)).trans (h.frame b hb hm)⟩

section
variable {E : Type} {P : Program} {o : Oper} {s : Lst E} {gs : Gs}

def toFnv : (k k' : Kt) → Option Nat
  | .fnv, .fn f .unit => some f
  | _, _ => none
theorem toFnv_spec {k k' : Kt} {f : Nat} (h : toFnv k k' = some f) : k = .fnv ∧ k' = .fn f .unit := by
  unfold toFnv at h
  split at h <;> try (cases h; done)
  obtain rfl := Option.some.inj h
  exact ⟨rfl, rfl⟩
def fnvD : (k : Kt) → Nat → k.T
  | .fnv, f => some f
  | k, _ => k.dflt
/-- A kind without windows; data without what lies behind them. -/
def Kt.strip : Kt → Kt
  | .pair a b => .pair a.strip b.strip
  | .arr n e => .arr n e.strip
  | .sl T e => .sl T e.strip
  | .ptr T e => .ptr T e.strip
  | .win (.sl T e) => .sl T e.strip
  | k => k
def stripD : (k : Kt) → k.T → k.strip.T
  | .pair a b, x => (stripD a x.1, stripD b x.2)
  | .arr _ e, xs => List.map (stripD e) xs
  | .sl _ e, xs => List.map (stripD e) xs
  | .ptr _ e, x => stripD e x
  | .win (.sl _ e), z => List.map (stripD e) (List.take z.2 z.1)
  | .win (.int _), z => z
  | .win .bool, z => z
  | .win .str, z => z
  | .win .unit, z => z
  | .win (.pair _ _), z => z
  | .win (.arr _ _), z => z
  | .win (.ptr _ _), z => z
  | .win .unk, z => z
  | .win (.fn _ _), z => z
  | .win (.bld _ _), z => z
  | .win (.ifc _ _), z => z
  | .win .fnv, z => z
  | .win (.map _ _), z => z
  | .win (.win _), z => z
  | .win (.opt _ _), z => z
  | .int _, x => x
  | .bool, x => x
  | .str, x => x
  | .unit, x => x
  | .unk, x => x
  | .fn _ _, x => x
  | .bld _ _, x => x
  | .ifc _ _, x => x
  | .fnv, x => x
  | .opt _ _, x => x
  | .map _ _, x => x
theorem strip_agg : ∀ k : Kt, k.strip.isAgg = k.isAgg
  | .pair _ _ => rfl
  | .arr _ _ => rfl
  | .sl _ _ => rfl
  | .ptr _ _ => rfl
  | .win (.sl _ _) => rfl
  | .win (.int _) => rfl
  | .win .bool => rfl
  | .win .str => rfl
  | .win .unit => rfl
  | .win (.pair _ _) => rfl
  | .win (.arr _ _) => rfl
  | .win (.ptr _ _) => rfl
  | .win .unk => rfl
  | .win (.fn _ _) => rfl
  | .win (.bld _ _) => rfl
  | .win (.ifc _ _) => rfl
  | .win .fnv => rfl
  | .win (.map _ _) => rfl
  | .win (.win _) => rfl
  | .win (.opt _ _) => rfl
  | .int _ => rfl
  | .bool => rfl
  | .str => rfl
  | .unit => rfl
  | .unk => rfl
  | .fn _ _ => rfl
  | .bld _ _ => rfl
  | .ifc _ _ => rfl
  | .fnv => rfl
  | .opt _ _ => rfl
  | .map _ _ => rfl
theorem RzL.map_free {α β : Type} {R : List Nat → α → List Value → Prop} {R' : List Nat → β → List Value → Prop} (f : α → β) {xs : List α} {cs : List Value} (h : RzL R [] xs cs) (hi : ∀ x c, R [] x c → R' [] (f x) c) : RzL R' [] (xs.map f) cs := by
  generalize hF : ([] : List Nat) = F at h
  induction h with
  | nil => exact hF ▸ .nil
  | @cons F Fs x xs c cs h t ih =>
    obtain ⟨rfl, rfl⟩ := List.append_eq_nil_iff.1 hF.symm
    exact RzL.cons (F := []) (Fs := []) (hi _ _ h) (ih rfl)
theorem Rz_strip {w : World} {Sh : Nat → Prop} : ∀ (k : Kt) (x : k.T) (cs : List Value), Rz w Sh k .sh [] x cs → Rz w Sh k.strip .sh [] (stripD k x) cs
  | .pair a b, x, cs, h => by
    obtain ⟨F1, F2, c1, c2, hF, rfl, h1, h2⟩ := h
    obtain ⟨rfl, rfl⟩ := List.append_eq_nil_iff.1 hF.symm
    exact ⟨[], [], c1, c2, rfl, rfl, Rz_strip a _ _ h1, Rz_strip b _ _ h2⟩
  | .arr n e, xs, cs, h => ⟨by
      have := h.1
      show (List.map (stripD e) xs).length = n
      rw [List.length_map]; exact this, h.2.map_free (stripD e) fun x c hr => Rz_strip e x c hr⟩
  | .sl T e, xs, cs, h => by
    obtain ⟨A, cap, hc, hcap, h1⟩ := (h.2.resolve_left fun h => by cases h.1).2
    refine ⟨rfl, .inr ⟨by simp, A, cap, by rw [hc]; show _ = [Value.slice A (List.map (stripD e) xs).length cap]; rw [List.length_map], by show CapOk (List.map (stripD e) xs).length cap; rw [List.length_map]; exact hcap, ?_⟩⟩
    rcases h1 with ⟨h2, h3⟩ | ⟨b, o, cc, h2, h3, h4, h5, h6⟩
    · have h2 : xs = [] := h2
      subst h2
      exact .inl ⟨rfl, h3⟩
    · exact .inr ⟨b, o, cc, h2, h3, h4, RzL.map_free (stripD e) h5 fun x c hr => Rz_strip e x c hr, h6⟩
  | .ptr T e, x, cs, h => by
    obtain ⟨b, o, cc, h1, h2, h3, h4, h5⟩ := (h.2.resolve_left fun h => by cases h.1).2
    exact ⟨rfl, .inr ⟨by simp, b, o, cc, h1, h2, h3, Rz_strip e _ _ h4, h5⟩⟩
  | .win (.sl T e), z, cs, h => by
    have h := Rz_win h
    obtain ⟨A, cap, hc, hcap, h1⟩ := (h.2.resolve_left fun h => by cases h.1).2
    have key : ∀ xs : List e.T, (cs = [Value.slice A xs.length cap]) → CapOk xs.length cap → (Nl A cap xs ∨ ∃ b o cc, A = some ⟨b, o, none⟩ ∧ Sh b ∧ b < w.heap.size ∧ RzL (Rz w Sh e .sh) [] xs cc ∧ CellsAt w b o cc) → Rz w Sh (.sl T e.strip) .sh [] (List.map (stripD e) xs) cs := by
      intro xs hc hcap h1
      refine ⟨rfl, .inr ⟨by simp, A, cap, by rw [List.length_map]; exact hc, by rw [List.length_map]; exact hcap, ?_⟩⟩
      rcases h1 with ⟨h2, h3⟩ | ⟨b, o, cc, h2, h3, h4, h5, h6⟩
      · subst h2
        exact .inl ⟨rfl, h3⟩
      · exact .inr ⟨b, o, cc, h2, h3, h4, RzL.map_free (stripD e) h5 fun x c hr => Rz_strip e x c hr, h6⟩
    exact key _ hc hcap h1
  | .win (.int _), _, _, h => h
  | .win .bool, _, _, h => h
  | .win .str, _, _, h => h
  | .win .unit, _, _, h => h
  | .win (.pair _ _), _, _, h => h
  | .win (.arr _ _), _, _, h => h
  | .win (.ptr _ _), _, _, h => h
  | .win .unk, _, _, h => h
  | .win (.fn _ _), _, _, h => h
  | .win (.bld _ _), _, _, h => h
  | .win (.ifc _ _), _, _, h => h
  | .win .fnv, _, _, h => h
  | .win (.map _ _), _, _, h => h
  | .win (.win _), _, _, h => h
  | .win (.opt _ _), _, _, h => h
  | .int _, _, _, h => h
  | .bool, _, _, h => h
  | .str, _, _, h => h
  | .unit, _, _, h => h
  | .unk, _, _, h => h
  | .fn _ _, _, _, h => h
  | .bld _ _, _, _, h => h
  | .ifc _ _, _, _, h => h
  | .fnv, _, _, h => h
  | .opt _ _, _, _, h => h
  | .map _ _, _, _, h => h
theorem shows_strip {k : Kt} {v : Value} {cs : List Value} (h : Shows k v cs) : Shows k.strip v cs := by
  unfold Shows at *
  rw [strip_agg]; exact h

/-- Data without windows, seen as data with windows of which all is in sight. -/
def toW : (k : Kt) → k.strip.T → k.T
  | .pair a b, x => (toW a x.1, toW b x.2)
  | .arr _ e, xs => List.map (toW e) xs
  | .sl _ e, xs => List.map (toW e) xs
  | .ptr _ e, x => toW e x
  | .win (.sl _ e), xs => (List.map (toW e) xs, List.length xs)
  | .win (.int _), z => z
  | .win .bool, z => z
  | .win .str, z => z
  | .win .unit, z => z
  | .win (.pair _ _), z => z
  | .win (.arr _ _), z => z
  | .win (.ptr _ _), z => z
  | .win .unk, z => z
  | .win (.fn _ _), z => z
  | .win (.bld _ _), z => z
  | .win (.ifc _ _), z => z
  | .win .fnv, z => z
  | .win (.map _ _), z => z
  | .win (.win _), z => z
  | .win (.opt _ _), z => z
  | .int _, x => x
  | .bool, x => x
  | .str, x => x
  | .unit, x => x
  | .unk, x => x
  | .fn _ _, x => x
  | .bld _ _, x => x
  | .ifc _ _, x => x
  | .fnv, x => x
  | .opt _ _, x => x
  | .map _ _, x => x
theorem sl_map {w : World} {Sh : Nat → Prop} {T : TypeId} {e1 e2 : Kt} (f : e1.T → e2.T) (hf : ∀ x c, Rz w Sh e1 .sh [] x c → Rz w Sh e2 .sh [] (f x) c) {xs : List e1.T} {cs : List Value} (h : Rz w Sh (.sl T e1) .sh [] xs cs) : Rz w Sh (.sl T e2) .sh [] (List.map f xs : List e2.T) cs := by
  obtain ⟨A, cap, hc, hcap, h1⟩ := (h.2.resolve_left fun h => by cases h.1).2
  have hl : (List.map f xs).length = xs.length := List.length_map ..
  refine ⟨rfl, .inr ⟨by simp, A, cap, by rw [hl]; exact hc, by rw [hl]; exact hcap, ?_⟩⟩
  rcases h1 with ⟨h2, h3⟩ | ⟨b, o, cc, h2, h3, h4, h5, h6⟩
  · have h2 : xs = [] := h2
    subst h2
    exact .inl ⟨rfl, h3⟩
  · exact .inr ⟨b, o, cc, h2, h3, h4, RzL.map_free f h5 hf, h6⟩
theorem arr_map {w : World} {Sh : Nat → Prop} {n : Nat} {e1 e2 : Kt} (f : e1.T → e2.T) (hf : ∀ x c, Rz w Sh e1 .sh [] x c → Rz w Sh e2 .sh [] (f x) c) {xs : List e1.T} {cs : List Value} (h : Rz w Sh (.arr n e1) .sh [] xs cs) : Rz w Sh (.arr n e2) .sh [] (List.map f xs : List e2.T) cs :=
  ⟨(List.length_map ..).trans h.1, h.2.map_free f hf⟩
theorem win_of {w : World} {Sh : Nat → Prop} {T : TypeId} {e : Kt} {xs : List e.T} {n : Nat} {cs : List Value} (hn : n = xs.length) (h : Rz w Sh (.sl T e) .sh [] xs cs) : Rz w Sh (.win (.sl T e)) .sh [] ((xs, n) : List e.T × Nat) cs := by
  subst hn
  obtain ⟨A, cap, hc, hcap, h1⟩ := (h.2.resolve_left fun h => by cases h.1).2
  refine .inr ⟨by simp, A, xs.length, cap, hc, Nat.le_refl _, ?_⟩
  rw [← hc]; exact h
theorem Rz_toW {w : World} {Sh : Nat → Prop} : ∀ (k : Kt) (x : k.strip.T) (cs : List Value), Rz w Sh k.strip .sh [] x cs → Rz w Sh k .sh [] (toW k x) cs
  | .pair a b, x, cs, h => by
    obtain ⟨F1, F2, c1, c2, hF, rfl, h1, h2⟩ := h
    obtain ⟨rfl, rfl⟩ := List.append_eq_nil_iff.1 hF.symm
    exact ⟨[], [], c1, c2, rfl, rfl, Rz_toW a _ _ h1, Rz_toW b _ _ h2⟩
  | .arr n e, xs, cs, h => arr_map (toW e) (fun x c hr => Rz_toW e x c hr) h
  | .sl T e, xs, cs, h => sl_map (toW e) (fun x c hr => Rz_toW e x c hr) h
  | .ptr T e, x, cs, h => by
    obtain ⟨b, o, cc, h1, h2, h3, h4, h5⟩ := (h.2.resolve_left fun h => by cases h.1).2
    exact ⟨rfl, .inr ⟨by simp, b, o, cc, h1, h2, h3, Rz_toW e _ _ h4, h5⟩⟩
  | .win (.sl T e), xs, cs, h => win_of (List.length_map ..).symm (sl_map (toW e) (fun x c hr => Rz_toW e x c hr) h)
  | .win (.int _), _, _, h => h
  | .win .bool, _, _, h => h
  | .win .str, _, _, h => h
  | .win .unit, _, _, h => h
  | .win (.pair _ _), _, _, h => h
  | .win (.arr _ _), _, _, h => h
  | .win (.ptr _ _), _, _, h => h
  | .win .unk, _, _, h => h
  | .win (.fn _ _), _, _, h => h
  | .win (.bld _ _), _, _, h => h
  | .win (.ifc _ _), _, _, h => h
  | .win .fnv, _, _, h => h
  | .win (.map _ _), _, _, h => h
  | .win (.win _), _, _, h => h
  | .win (.opt _ _), _, _, h => h
  | .int _, _, _, h => h
  | .bool, _, _, h => h
  | .str, _, _, h => h
  | .unit, _, _, h => h
  | .unk, _, _, h => h
  | .fn _ _, _, _, h => h
  | .bld _ _, _, _, h => h
  | .ifc _ _, _, _, h => h
  | .fnv, _, _, h => h
  | .opt _ _, _, _, h => h
  | .map _ _, _, _, h => h
theorem shows_toW {k : Kt} {v : Value} {cs : List Value} (h : Shows k.strip v cs) : Shows k v cs := by
  unfold Shows at *
  rw [strip_agg] at h; exact h

/-- The arguments: their data, the owned slices that are only read, those that are changed. -/
structure CA (E : Type) (ps : List (Kt × PM)) where
  d : E → HL (ps.map (·.1))
  bs : List Nat
  ms : List Nat
  ts : List Nat
  os : List Nat

def c_args (s : Lst E) (gs : Gs) : (ps : List (Kt × PM)) → List Operand → Option (CA E ps)
  | [], [] => some ⟨fun _ => (), [], [], [], []⟩
  | (k, .val) :: ps, x :: xs => match c_args s gs ps xs with
    | none => none
    | some A => match s.op gs x with
      | some (.val k' y) => if h : k' = k then some ⟨fun e => (h ▸ y e, A.d e), A.bs, A.ms, A.ts, A.os⟩ else match toFnv k k' with
        | some f => some ⟨fun e => (fnvD k f, A.d e), A.bs, A.ms, A.ts, A.os⟩
        | none => if h : k'.strip = k then some ⟨fun e => (h ▸ stripD k' (y e), A.d e), A.bs, A.ms, A.ts, A.os⟩ else if h : k' = k.strip then some ⟨fun e => (toW k (h ▸ y e), A.d e), A.bs, A.ms, A.ts, A.os⟩ else none
      | some (.own r) => match s.root gs r with
        | some R => if h : R.k = k then if R.m.whole then some ⟨fun e => (h ▸ R.x e, A.d e), r :: A.bs, A.ms, A.ts, A.os⟩ else none
          else if h : R.k.strip = k then if R.m.whole then some ⟨fun e => (h ▸ stripD R.k (R.x e), A.d e), r :: A.bs, A.ms, A.ts, A.os⟩ else none
          else if h : R.k = k.strip then if R.m.whole then some ⟨fun e => (toW k (h ▸ R.x e), A.d e), r :: A.bs, A.ms, A.ts, A.os⟩ else none else none
        | none => none
      | some (.cst (.slice none 0 0)) => match k with
        | .sl _ _ => some ⟨fun e => ([], A.d e), A.bs, A.ms, A.ts, A.os⟩
        | _ => none
      | some (.cst .nilIface) => match k with
        | .ifc _ _ => some ⟨fun e => (none, A.d e), A.bs, A.ms, A.ts, A.os⟩
        | _ => none
      | some (.view r hv k' p) => match s.root gs r with
        | some R => if R.hv = hv ∧ noix p = true then match lens R.k R.m p with
          | some L => if h : L.k' = k then if L.m'.whole ∧ k' = k then some ⟨fun e => (h ▸ L.get e (R.x e), A.d e), r :: A.bs, A.ms, A.ts, A.os⟩ else none
            else if h : L.k'.strip = k then if L.m'.whole ∧ k' = L.k' then some ⟨fun e => (h ▸ stripD L.k' (L.get e (R.x e)), A.d e), r :: A.bs, A.ms, A.ts, A.os⟩ else none else none
          | none => none
          else none
        | none => none
      | _ => none
  | (k, .mut m) :: ps, x :: xs => match c_args s gs ps xs with
    | none => none
    | some A => match s.op gs x with
      | some (.own r) => match s.root gs r with
        | some R => if h : R.k = k then if R.m = m ∧ m.isOw = true then some ⟨fun e => (h ▸ R.x e, A.d e), A.bs, r :: A.ms, A.ts, r :: A.os⟩ else none else none
        | none => none
      | _ => none
  | (k, .tak m) :: ps, x :: xs => match c_args s gs ps xs with
    | none => none
    | some A => match s.op gs x with
      | some (.own r) => match s.root gs r with
        | some R => if h : R.k = k then if R.m = m ∧ m.isOw = true then some ⟨fun e => (h ▸ R.x e, A.d e), A.bs, A.ms, r :: A.ts, r :: A.os⟩ else none else none
        | none => none
      | _ => none
  | _, _ => none

def Borrow (S : Nat → Prop) (Fp : Nat → List Nat) (bs : List Nat) (b : Nat) : Prop := S b ∨ ∃ r ∈ bs, b ∈ Fp r

theorem fn_unit_val {w : World} {S : Nat → Prop} {f : Nat} {x : (Kt.fn f .unit).T} {v : Value} {cs : List Value} (h1 : Shows (.fn f .unit) v cs) (h2 : Rz w S (.fn f .unit) .sh [] x cs) : v = fnV (some f) := by
  obtain ⟨_, h⟩ := h2
  obtain ⟨_, vs, cc, h3, h4, _⟩ := h.resolve_left fun h => by cases h.1
  obtain rfl := h4.1
  have h1 : cs = [v] := h1
  rw [h1] at h3
  exact (List.cons.inj h3).1
theorem kp_borrow {w : World} {S : Nat → Prop} {Fp : Nat → List Nat} {bs : List Nat} : Kp w S w (Borrow S Fp bs) := ⟨Nat.le_refl _, fun b hb _ => ⟨rfl, .inl hb⟩⟩

/-- The roots that are changed, as they were. -/
inductive MutI (g : G) (V : Nat → Value) : List (Kt × PM) → List Value → List Nat → Prop
  | nil : MutI g V [] [] []
  | val {k : Kt} {ps : List (Kt × PM)} {v : Value} {vs : List Value} {ms : List Nat} (t : MutI g V ps vs ms) : MutI g V ((k, .val) :: ps) (v :: vs) ms
  | tak {k : Kt} {ps : List (Kt × PM)} {v : Value} {vs : List Value} {m : Mk} {ms : List Nat} (t : MutI g V ps vs ms) : MutI g V ((k, .tak m) :: ps) (v :: vs) ms
  | mut {k : Kt} {m : Mk} {hv : Nat} {x : k.T} {ps : List (Kt × PM)} {v : Value} {vs : List Value} {r : Nat} {ms : List Nat} (hr : g.rt r = some (some ⟨k, m, hv, x⟩)) (hm : m.isOw = true) (hv : v = V r) (t : MutI g V ps vs ms) : MutI g V ((k, .mut m) :: ps) (v :: vs) (r :: ms)

theorem c_args_spec {cx : Cx} {g : G} {a : Act} {w : World} {V : Nat → Value} {Fp : Nat → List Nat} {e : E} {n : Nat} (hp : Pre cx g a w V Fp) (hA : Agree g s e (opTmps o) n) (h1 : s.on gs e = true) (B : List Nat) :
    ∀ (ps : List (Kt × PM)) (xs : List Operand) (A : CA E ps), c_args s gs ps xs = some A → (∀ x ∈ xs, x ∈ o.op.operands) → (∀ r ∈ A.bs, r ∈ B) →
      ArgsR w (Borrow (cx.Sh Fp) Fp B) ps (A.d e) (xs.map a.eval) (A.os.flatMap Fp) ∧ MutI g V ps (xs.map a.eval) A.ms := by
  intro ps
  induction ps with
  | nil =>
    intro xs A h hm hB
    cases xs with
    | nil => obtain rfl := Option.some.inj h; exact ⟨⟨rfl, rfl⟩, .nil⟩
    | cons x xs => simp [c_args] at h
  | cons p ps ih =>
    intro xs A h hm hB
    obtain ⟨k, pm⟩ := p
    cases xs with
    | nil => cases pm <;> simp [c_args] at h
    | cons x xs =>
      have mx : x ∈ o.op.operands := hm x (List.mem_cons_self ..)
      cases pm with
      | val =>
        simp only [c_args] at h
        split at h <;> try (cases h; done)
        rename_i A0 hA0
        split at h <;> try (cases h; done)
        · rename_i k' y hx
          split at h
          rotate_left
          · split at h
            rotate_left
            · obtain ⟨i1, i2⟩ := ih xs A0 hA0 (fun x hx => hm x (List.mem_cons_of_mem _ hx)) (by
                split at h
                · obtain rfl := Option.some.inj h; exact hB
                · split at h <;> try (cases h; done)
                  obtain rfl := Option.some.inj h; exact hB)
              obtain ⟨cs, c1, c2⟩ := Lst.op_esat hp hA h1 mx hx
              split at h
              · rename_i hk
                obtain rfl := Option.some.inj h
                subst hk
                exact ⟨⟨_, _, rfl, ⟨cs, shows_strip c1, Rz_strip _ _ _ (Rz_keep kp_borrow _ _ _ _ _ (by intro b hb; cases hb) c2)⟩, i1⟩, .val i2⟩
              · split at h <;> try (cases h; done)
                rename_i hk
                obtain rfl := Option.some.inj h
                subst hk
                exact ⟨⟨_, _, rfl, ⟨cs, shows_toW c1, Rz_toW _ _ _ (Rz_keep kp_borrow _ _ _ _ _ (by intro b hb; cases hb) c2)⟩, i1⟩, .val i2⟩
            rename_i f hf
            obtain rfl := Option.some.inj h
            obtain ⟨rfl, rfl⟩ := toFnv_spec hf
            obtain ⟨i1, i2⟩ := ih xs _ hA0 (fun x hx => hm x (List.mem_cons_of_mem _ hx)) hB
            obtain ⟨cs, c1, c2⟩ := Lst.op_esat hp hA h1 mx hx
            have hv := fn_unit_val c1 c2
            exact ⟨⟨_, _, rfl, ⟨[a.eval x], rfl, rfl, .inr ⟨by simp, by rw [hv]; rfl⟩⟩, i1⟩, .val i2⟩
          rename_i hk
          obtain rfl := Option.some.inj h
          subst hk
          obtain ⟨i1, i2⟩ := ih xs A0 hA0 (fun x hx => hm x (List.mem_cons_of_mem _ hx)) hB
          obtain ⟨cs, c1, c2⟩ := Lst.op_esat hp hA h1 mx hx
          exact ⟨⟨_, _, rfl, ⟨cs, c1, Rz_keep kp_borrow _ _ _ _ _ (by intro b hb; cases hb) c2⟩, i1⟩, .val i2⟩
        · rename_i r hx
          split at h <;> try (cases h; done)
          rename_i R hR
          have main : ∀ hw : R.m.whole = true, (∀ r' ∈ r :: A0.bs, r' ∈ B) → (ArgsR w (Borrow (cx.Sh Fp) Fp B) ps (A0.d e) (xs.map a.eval) (A0.os.flatMap Fp) ∧ MutI g V ps (xs.map a.eval) A0.ms) ∧ ∃ cs, Shows R.k (a.eval x) cs ∧ Rz w (Borrow (cx.Sh Fp) Fp B) R.k .sh [] (R.x e) cs := by
            intro hw hB
            refine ⟨ih xs A0 hA0 (fun x hx => hm x (List.mem_cons_of_mem _ hx)) (fun r hr => hB r (List.mem_cons_of_mem _ hr)), ?_⟩
            have hrt : g.rt r = _ := (Lst.op_root hA mx hx (List.mem_singleton_self _)).trans (Lst.root_gr h1 hR)
            obtain ⟨R0, h3, h4⟩ := Lst.op_esat hp hA h1 mx hx
            rw [hrt] at h3
            obtain rfl := Option.some.inj h3
            have hvv := h4 (by simp)
            obtain ⟨cs, z1, z2⟩ := hp.mem.roots r _ hrt
            rw [hvv]
            exact ⟨cs, z1, Rz_share (Sh' := Borrow (cx.Sh Fp) Fp B) (fun b hb _ => .inl hb) _ _ _ _ _ hw (fun b hb => .inr ⟨r, hB r (List.mem_cons_self ..), hb⟩) z2⟩
          split at h
          · rename_i hk
            split at h <;> try (cases h; done)
            rename_i hw
            obtain rfl := Option.some.inj h
            obtain ⟨⟨i1, i2⟩, cs, z1, z2⟩ := main hw hB
            obtain ⟨Rk, Rm, Rhv, Rx⟩ := R
            have hk : Rk = k := hk
            subst hk
            exact ⟨⟨_, _, rfl, ⟨cs, z1, z2⟩, i1⟩, .val i2⟩
          split at h
          · rename_i hk
            split at h <;> try (cases h; done)
            rename_i hw
            obtain rfl := Option.some.inj h
            obtain ⟨⟨i1, i2⟩, cs, z1, z2⟩ := main hw hB
            obtain ⟨Rk, Rm, Rhv, Rx⟩ := R
            have hk : Rk.strip = k := hk
            subst hk
            exact ⟨⟨_, _, rfl, ⟨cs, shows_strip z1, Rz_strip _ _ _ z2⟩, i1⟩, .val i2⟩
          · split at h <;> try (cases h; done)
            rename_i hk
            split at h <;> try (cases h; done)
            rename_i hw
            obtain rfl := Option.some.inj h
            obtain ⟨⟨i1, i2⟩, cs, z1, z2⟩ := main hw hB
            obtain ⟨Rk, Rm, Rhv, Rx⟩ := R
            have hk : Rk = k.strip := hk
            subst hk
            exact ⟨⟨_, _, rfl, ⟨cs, shows_toW z1, Rz_toW _ _ _ z2⟩, i1⟩, .val i2⟩
        · rename_i hx
          split at h <;> try (cases h; done)
          rename_i T el A0' hA0'
          obtain rfl := Option.some.inj h
          obtain ⟨i1, i2⟩ := ih xs _ hA0 (fun x hx => hm x (List.mem_cons_of_mem _ hx)) hB
          have hv : a.eval x = .slice none 0 0 := Lst.op_esat hp hA h1 mx hx
          exact ⟨⟨_, _, rfl, ⟨[.slice none 0 0], by rw [hv]; rfl, rfl, .inr ⟨by simp, none, 0, rfl, capOk0, .inl ⟨rfl, fun _ => rfl⟩⟩⟩, i1⟩, .val i2⟩
        · rename_i hx
          split at h <;> try (cases h; done)
          rename_i T el A0' hA0'
          obtain rfl := Option.some.inj h
          obtain ⟨i1, i2⟩ := ih xs _ hA0 (fun x hx => hm x (List.mem_cons_of_mem _ hx)) hB
          have hv : a.eval x = .nilIface := Lst.op_esat hp hA h1 mx hx
          exact ⟨⟨_, _, rfl, ⟨[.nilIface], by rw [hv]; rfl, .inr ⟨by simp, .inl ⟨rfl, rfl, rfl⟩⟩⟩, i1⟩, .val i2⟩
        · rename_i r hv k' p hx
          split at h <;> try (cases h; done)
          rename_i R hR
          split at h <;> try (cases h; done)
          rename_i hc
          split at h <;> try (cases h; done)
          rename_i L hL
          have main : ∀ hw : L.m'.whole = true, k' = L.k' → (∀ r' ∈ r :: A0.bs, r' ∈ B) → (ArgsR w (Borrow (cx.Sh Fp) Fp B) ps (A0.d e) (xs.map a.eval) (A0.os.flatMap Fp) ∧ MutI g V ps (xs.map a.eval) A0.ms) ∧ ∃ cs, Shows L.k' (a.eval x) cs ∧ Rz w (Borrow (cx.Sh Fp) Fp B) L.k' .sh [] (L.get e (R.x e)) cs := by
            intro hw1 hkk hB
            subst hkk
            refine ⟨ih xs A0 hA0 (fun x hx => hm x (List.mem_cons_of_mem _ hx)) (fun r hr => hB r (List.mem_cons_of_mem _ hr)), ?_⟩
            have hrt : g.rt r = some (some (R.ev e)) := (Lst.op_root hA mx hx (List.mem_singleton_self _)).trans (Lst.root_gr h1 hR)
            obtain ⟨R0, h3, h4⟩ := Lst.op_esat hp hA h1 mx hx
            rw [hrt] at h3
            obtain rfl := Option.some.inj h3
            have hl := lens_is _ _ _ _ hL
            have hok : L.ok e (R.x e) = true := noix_ok hl hc.2 e _
            obtain ⟨b, o', cs, hb, ha, hcells, hsh⟩ := (h4 _ rfl).2 hc.1 (by have := gok_lens e hl (R.x e); rw [hok] at this; exact this.symm)
            obtain ⟨Fo, c, T, c1, c2, q1, q2, q3, q4, q5, q6⟩ := hole_cells (hp.hole (R := R.ev e) hrt e hL hok) ha
            have hcl := Rz_len _ _ _ _ _ _ _ q2
            have hz := Rz_share (Sh' := Borrow (cx.Sh Fp) Fp B) (fun b hb _ => .inl hb) _ _ _ _ _ hw1 (fun b hb => .inr ⟨r, hB r (List.mem_cons_self ..), q1 b hb⟩) q2
            have hcc : cs = c := by
              have hlen : cs.length = c.length := by
                rw [Rz_len _ _ _ _ _ _ _ hz]
                exact hsh.2
              refine List.ext_getElem? fun j => ?_
              by_cases hj : j < c.length
              · obtain ⟨u, hu⟩ : ∃ u, cs[j]? = some u := ⟨cs[j]'(by omega), List.getElem?_eq_getElem (by omega)⟩
                obtain ⟨u', hu'⟩ : ∃ u, c[j]? = some u := ⟨c[j]'hj, List.getElem?_eq_getElem hj⟩
                have e1 := hcells j u hu
                have e2 := q6 j u' hu'
                rw [hu, hu', ← e1, ← e2]
              · rw [List.getElem?_eq_none (by omega), List.getElem?_eq_none (by omega)]
            subst hcc
            exact ⟨cs, hsh.1, hz⟩
          split at h
          · rename_i hk
            split at h <;> try (cases h; done)
            rename_i hw
            obtain rfl := Option.some.inj h
            obtain ⟨⟨i1, i2⟩, cs, z1, z2⟩ := main hw.1 (hw.2.trans hk.symm) hB
            have aux : ∀ {k k' : Kt} (h : k = k') (x : k.T) {v : Value}, Shows k v cs → Rz w (Borrow (cx.Sh Fp) Fp B) k .sh [] x cs → Shows k' v cs ∧ Rz w (Borrow (cx.Sh Fp) Fp B) k' .sh [] (h ▸ x) cs := by
              intro k k' h x v h1 h2; subst h; exact ⟨h1, h2⟩
            exact ⟨⟨_, _, rfl, ⟨cs, aux hk _ z1 z2⟩, i1⟩, .val i2⟩
          · split at h <;> try (cases h; done)
            rename_i hk
            split at h <;> try (cases h; done)
            rename_i hw
            obtain rfl := Option.some.inj h
            obtain ⟨⟨i1, i2⟩, cs, z1, z2⟩ := main hw.1 hw.2 hB
            have aux : ∀ {k k' : Kt} (h : k = k') (x : k.T) {v : Value}, Shows k v cs → Rz w (Borrow (cx.Sh Fp) Fp B) k .sh [] x cs → Shows k' v cs ∧ Rz w (Borrow (cx.Sh Fp) Fp B) k' .sh [] (h ▸ x) cs := by
              intro k k' h x v h1 h2; subst h; exact ⟨h1, h2⟩
            exact ⟨⟨_, _, rfl, ⟨cs, aux hk _ (shows_strip z1) (Rz_strip _ _ _ z2)⟩, i1⟩, .val i2⟩
      | «mut» m =>
        simp only [c_args] at h
        split at h <;> try (cases h; done)
        rename_i A0 hA0
        split at h <;> try (cases h; done)
        rename_i r hx
        split at h <;> try (cases h; done)
        rename_i R hR
        split at h <;> try (cases h; done)
        rename_i hk
        split at h <;> try (cases h; done)
        rename_i hmm
        obtain rfl := Option.some.inj h
        obtain ⟨hm1, hm2⟩ := hmm
        obtain ⟨i1, i2⟩ := ih xs A0 hA0 (fun x hx => hm x (List.mem_cons_of_mem _ hx)) hB
        have hrt : g.rt r = _ := (Lst.op_root hA mx hx (List.mem_singleton_self _)).trans (Lst.root_gr h1 hR)
        obtain ⟨R0, h3, h4⟩ := Lst.op_esat hp hA h1 mx hx
        rw [hrt] at h3
        obtain rfl := Option.some.inj h3
        have hvv := h4 (by simp)
        obtain ⟨cs, z1, z2⟩ := hp.mem.roots r _ hrt
        obtain ⟨Rk, Rm, Rhv, Rx⟩ := R
        have hk : Rk = k := hk
        have hm1 : Rm = m := hm1
        subst hk hm1
        exact ⟨⟨_, _, _, _, rfl, rfl, ⟨cs, by rw [hvv]; exact z1, Rz_keep kp_borrow _ _ _ _ _ (fun _ _ => rfl) z2⟩, i1⟩, .mut hrt hm2 hvv i2⟩
      | tak m =>
        simp only [c_args] at h
        split at h <;> try (cases h; done)
        rename_i A0 hA0
        split at h <;> try (cases h; done)
        rename_i r hx
        split at h <;> try (cases h; done)
        rename_i R hR
        split at h <;> try (cases h; done)
        rename_i hk
        split at h <;> try (cases h; done)
        rename_i hmm
        obtain rfl := Option.some.inj h
        obtain ⟨hm1, hm2⟩ := hmm
        obtain ⟨i1, i2⟩ := ih xs A0 hA0 (fun x hx => hm x (List.mem_cons_of_mem _ hx)) hB
        have hrt : g.rt r = _ := (Lst.op_root hA mx hx (List.mem_singleton_self _)).trans (Lst.root_gr h1 hR)
        obtain ⟨R0, h3, h4⟩ := Lst.op_esat hp hA h1 mx hx
        rw [hrt] at h3
        obtain rfl := Option.some.inj h3
        have hvv := h4 (by simp)
        obtain ⟨cs, z1, z2⟩ := hp.mem.roots r _ hrt
        obtain ⟨Rk, Rm, Rhv, Rx⟩ := R
        have hk : Rk = k := hk
        have hm1 : Rm = m := hm1
        subst hk hm1
        exact ⟨⟨_, _, _, _, rfl, rfl, ⟨cs, by rw [hvv]; exact z1, Rz_keep kp_borrow _ _ _ _ _ (fun _ _ => rfl) z2⟩, i1⟩, .tak i2⟩
end
end Go.Lift

namespace Go.Lift
set_option linter.unusedVariables false
set_option linter.unusedSimpArgs false

def HL.dflt : (l : List Kt) → HL l
  | [] => ()
  | k :: l => (k.dflt, HL.dflt l)

/-- A call: what it comes to hangs on what the callee has for an answer. -/
structure OC (E : Type) where
  X : Type
  den : Nat → E → Option X
  dflt : X
  es : List (Nat × Ent (E × X))
  ru : List (Nat × Option (Root (E × X)))
  n : Nat

section
variable {E' : Type}
def c_res : (rs : List (Kt × RM)) → Nat → Nat → (E' → HL (rs.map (·.1))) → List (Nat × Ent E') × List (Nat × Option (Root E'))
  | [], _, _, _ => ([], [])
  | (k, .val) :: rs, j, nid, pr =>
    let q := c_res rs (j + 1) nid fun e => (pr e).2
    ((j, .val k fun e => (pr e).1) :: q.1, q.2)
  | (k, .own m) :: rs, j, nid, pr =>
    let q := c_res rs (j + 1) (nid + 1) fun e => (pr e).2
    ((j, .own nid) :: q.1, (nid, some ⟨k, m, 0, fun e => (pr e).1⟩) :: q.2)
def ownCount : List (Kt × RM) → Nat
  | [] => 0
  | (_, .val) :: rs => ownCount rs
  | (_, .own _) :: rs => ownCount rs + 1
def c_mut {E : Type} (s : Lst E) (gs : Gs) : (ps : List (Kt × PM)) → List Nat → (E' → HL ((mutsOf ps).map (·.1))) → List (Nat × Option (Root E'))
  | [], _, _ => []
  | (_, .val) :: ps, ms, pr => c_mut s gs ps ms pr
  | (_, .tak _) :: ps, ms, pr => c_mut s gs ps ms pr
  | (k, .mut m) :: ps, r :: ms, pr => (r, some ⟨k, m, ((s.root gs r).map (·.hv)).getD 0 + 1, fun e => (pr e).1⟩) :: c_mut s gs ps ms fun e => (pr e).2
  | (_, .mut _) :: _, [], _ => []
end

theorem rtA_rtU {E : Type} {al : List NR} {ru : List (Nat × Option (Root E))} {e : E} (h : al.map (fun x => (x.r, x.R)) = ru.map (fun q => (q.1, q.2.map (Root.ev e)))) (rt : Nat → Option GR) : rtA rt al = rtU rt ru e := by
  funext q
  simp only [rtA, rtU]
  induction al generalizing ru with
  | nil =>
    cases ru with
    | nil => rfl
    | cons x ru => simp at h
  | cons x al ih =>
    cases ru with
    | nil => simp at h
    | cons y ru =>
      simp only [List.map_cons, List.cons.injEq, Prod.mk.injEq] at h
      obtain ⟨⟨h1, h2⟩, h3⟩ := h
      obtain ⟨y1, y2⟩ := y
      simp only at h1 h2
      subst h1
      simp only [lookR, List.find?_cons, look]
      by_cases hq : q = x.r
      · subst hq
        simp [h2]
      · have : (x.r == q) = false := by simpa using fun e => hq e.symm
        rw [this, if_neg hq]
        exact ih h3

inductive ResA : (rs : List (Kt × RM)) → HL (rs.map (·.1)) → List Value → Nat → List NR → Prop
  | nil {nid : Nat} {d : HL []} : ResA [] d [] nid []
  | val {k : Kt} {rs : List (Kt × RM)} {d : HL (((k, RM.val) :: rs).map (·.1))} {u : Value} {us : List Value} {nid : Nat} {al : List NR} (t : ResA rs d.2 us nid al) : ResA ((k, .val) :: rs) d (u :: us) nid al
  | own {k : Kt} {m : Mk} {rs : List (Kt × RM)} {d : HL (((k, RM.own m) :: rs).map (·.1))} {u : Value} {us : List Value} {nid : Nat} {F : List Nat} {al : List NR} (t : ResA rs d.2 us (nid + 1) al) : ResA ((k, .own m) :: rs) d (u :: us) nid (⟨nid, some ⟨k, m, 0, d.1⟩, u, F⟩ :: al)

/-- All a root's data say. -/
def RzN (w : World) (S : Nat → Prop) (x : NR) : Prop := ∃ R cs, x.R = some R ∧ Shows R.k x.v cs ∧ Rz w S R.k R.m x.F R.x cs

theorem res_al {w : World} {S : Nat → Prop} : ∀ (rs : List (Kt × RM)) (d : HL (rs.map (·.1))) (us : List Value) (F : List Nat) (nid : Nat), ResR w S rs d us F →
    ∃ al : List NR, al.flatMap (·.F) = F ∧ ResA rs d us nid al ∧ (∀ x ∈ al, nid ≤ x.r ∧ x.r < nid + ownCount rs) ∧ (∀ x ∈ al, RzN w S x)
  | [], d, us, F, nid, h => by
    obtain ⟨rfl, rfl⟩ := h
    exact ⟨[], rfl, .nil, by simp, by simp⟩
  | (k, .val) :: rs, d, us, F, nid, h => by
    obtain ⟨v, vs', rfl, h1, h2⟩ := h
    obtain ⟨al, i1, i2, i3, i4⟩ := res_al rs d.2 vs' F nid h2
    exact ⟨al, i1, .val i2, i3, i4⟩
  | (k, .own m) :: rs, d, us, F, nid, h => by
    obtain ⟨v, vs', F1, F2, rfl, rfl, ⟨cs, h1, h2⟩, h3⟩ := h
    obtain ⟨al, i1, i2, i3, i4⟩ := res_al rs d.2 vs' F2 (nid + 1) h3
    refine ⟨⟨nid, some ⟨k, m, 0, d.1⟩, v, F1⟩ :: al, by simp [i1], .own i2, fun x hx => ?_, fun x hx => ?_⟩
    · rcases List.mem_cons.1 hx with rfl | hx
      · simp [ownCount]
      · have := i3 x hx
        simp only [ownCount]
        omega
    · rcases List.mem_cons.1 hx with rfl | hx
      · exact ⟨_, cs, rfl, h1, h2⟩
      · exact i4 x hx

inductive MutA (g : G) (V : Nat → Value) : (ps : List (Kt × PM)) → HL ((mutsOf ps).map (·.1)) → List Nat → List NR → Prop
  | nil {d : HL []} : MutA g V [] d [] []
  | val {k : Kt} {ps : List (Kt × PM)} {d : HL ((mutsOf ((k, PM.val) :: ps)).map (·.1))} {ms : List Nat} {al : List NR} (t : MutA g V ps d ms al) : MutA g V ((k, .val) :: ps) d ms al
  | tak {k : Kt} {m : Mk} {ps : List (Kt × PM)} {d : HL ((mutsOf ((k, PM.tak m) :: ps)).map (·.1))} {ms : List Nat} {al : List NR} (t : MutA g V ps d ms al) : MutA g V ((k, .tak m) :: ps) d ms al
  | mut {k : Kt} {m : Mk} {hv : Nat} {x : k.T} {ps : List (Kt × PM)} {d : HL ((mutsOf ((k, PM.mut m) :: ps)).map (·.1))} {r : Nat} {ms : List Nat} {F : List Nat} {al : List NR} (hr : g.rt r = some (some ⟨k, m, hv, x⟩)) (hm : m.isOw = true) (t : MutA g V ps d.2 ms al) :
      MutA g V ((k, .mut m) :: ps) d (r :: ms) (⟨r, some ⟨k, m, hv + 1, d.1⟩, V r, F⟩ :: al)

theorem mut_al {g : G} {V : Nat → Value} {w : World} {S : Nat → Prop} : ∀ (ps : List (Kt × PM)) (d : HL ((mutsOf ps).map (·.1))) (vs : List Value) (F : List Nat) (ms : List Nat), MutI g V ps vs ms → MutR w S ps d vs F →
    ∃ al : List NR, al.flatMap (·.F) = F ∧ MutA g V ps d ms al ∧ al.map (·.r) = ms ∧ (∀ x ∈ al, RzN w S x)
  | [], d, vs, F, ms, hi, h => by
    cases hi
    have h : F = [] := h
    subst h
    exact ⟨[], rfl, .nil, rfl, by simp⟩
  | (k, .val) :: ps, d, vs, F, ms, hi, h => by
    cases hi with
    | val t =>
      obtain ⟨v, vs', he, h2⟩ := h
      obtain ⟨rfl, rfl⟩ := List.cons.inj he
      obtain ⟨al, i1, i2, i3, i4⟩ := mut_al ps d _ F ms t h2
      exact ⟨al, i1, .val i2, i3, i4⟩
  | (k, .tak m) :: ps, d, vs, F, ms, hi, h => by
    cases hi with
    | tak t =>
      obtain ⟨v, vs', he, h2⟩ := h
      obtain ⟨rfl, rfl⟩ := List.cons.inj he
      obtain ⟨al, i1, i2, i3, i4⟩ := mut_al ps d _ F ms t h2
      exact ⟨al, i1, .tak i2, i3, i4⟩
  | (k, .mut m) :: ps, d, vs, F, ms, hi, h => by
    cases hi with
    | «mut» hr hm hv t =>
      obtain ⟨v, vs', F1, F2, he, rfl, ⟨cs, h1, h2⟩, h3⟩ := h
      obtain ⟨rfl, rfl⟩ := List.cons.inj he
      obtain ⟨al, i1, i2, i3, i4⟩ := mut_al ps d.2 _ F2 _ t h3
      refine ⟨_ :: al, ?_, .mut (F := F1) hr hm i2, ?_, fun x hx => ?_⟩
      · simp [i1]
      · simp [i3]
      · rcases List.mem_cons.1 hx with rfl | hx
        · exact ⟨_, cs, rfl, hv ▸ h1, h2⟩
        · exact i4 x hx

theorem res_ru {E' : Type} {e : E'} : ∀ {rs : List (Kt × RM)} {d : HL (rs.map (·.1))} {us : List Value} {nid : Nat} {al : List NR} (h : ResA rs d us nid al) (j : Nat) (pr : E' → HL (rs.map (·.1))), pr e = d →
    al.map (fun x => (x.r, x.R)) = (c_res rs j nid pr).2.map (fun q => (q.1, q.2.map (Root.ev e)))
  | [], d, us, nid, al, h, j, pr, hd => by cases h; rfl
  | (k, .val) :: rs, d, us, nid, al, h, j, pr, hd => by
    cases h with
    | val t =>
      simp only [c_res]
      exact res_ru t (j + 1) _ (by rw [hd])
  | (k, .own m) :: rs, d, us, nid, al, h, j, pr, hd => by
    cases h with
    | own t =>
      simp only [c_res, List.map_cons]
      rw [res_ru t (j + 1) (fun e => (pr e).2) (by rw [hd])]
      simp [Root.ev, hd]
theorem mut_ru {E E' : Type} {e' : E'} {e : E} {s : Lst E} {gs : Gs} {g : G} {V : Nat → Value} : ∀ {ps : List (Kt × PM)} {d : HL ((mutsOf ps).map (·.1))} {ms : List Nat} {al : List NR} (h : MutA g V ps d ms al) (pr : E' → HL ((mutsOf ps).map (·.1))), pr e' = d → (∀ r ∈ ms, ∃ R, s.root gs r = some R ∧ g.rt r = some (some (R.ev e))) →
    al.map (fun x => (x.r, x.R)) = (c_mut s gs ps ms pr).map (fun q => (q.1, q.2.map (Root.ev e')))
  | [], d, ms, al, h, pr, hd, hs => by cases h; rfl
  | (k, .val) :: ps, d, ms, al, h, pr, hd, hs => by
    cases h with
    | val t => exact mut_ru t pr hd hs
  | (k, .tak m) :: ps, d, ms, al, h, pr, hd, hs => by
    cases h with
    | tak t => exact mut_ru t pr hd hs
  | (k, .mut m) :: ps, d, ms, al, h, pr, hd, hs => by
    cases h with
    | @«mut» _ _ hv x _ _ r ms F al hr hm t =>
      simp only [c_mut, List.map_cons]
      rw [mut_ru t (fun e => (pr e).2) (by rw [hd]) fun r hr => hs r (List.mem_cons_of_mem _ hr)]
      obtain ⟨R, h1, h2⟩ := hs r (List.mem_cons_self ..)
      rw [hr] at h2
      have h3 := Option.some.inj (Option.some.inj h2)
      have : R.hv = hv := by have := congrArg GRoot.hv h3; exact this.symm
      simp [h1, this, Root.ev, hd]

/-- The results' slots. -/
theorem res_es {cx : Cx} {rt' : Nat → Option GR} {V' : Nat → Value} {Fp' : Nat → List Nat} {w : World} {S : Nat → Prop} {E' : Type} {e : E'} : ∀ (rs : List (Kt × RM)) (d : HL (rs.map (·.1))) (us : List Value) (F : List Nat) (j nid : Nat) (pr : E' → HL (rs.map (·.1))) (al : List NR), pr e = d → ResR w S rs d us F → ResA rs d us nid al →
    (∀ x ∈ al, rt' x.r = some x.R ∧ V' x.r = x.v) → (∀ k x cs, (k, RM.val) ∈ rs → Rz w S k .sh [] x cs → Rz w (cx.Sh Fp') k .sh [] x cs) →
    us.length = rs.length ∧ ∀ i ent, evs (c_res rs j nid pr).1 e i = some ent → ∃ n u, us[n]? = some u ∧ i = j + n ∧ ESat cx rt' V' Fp' w ent u
  | [], d, us, F, j, nid, pr, al, hd, hr, ha, hrt, hc => by
    obtain ⟨rfl, rfl⟩ := hr
    exact ⟨rfl, fun i ent h => by cases h⟩
  | (k, .val) :: rs, d, us, F, j, nid, pr, al, hd, hr, ha, hrt, hc => by
    obtain ⟨v, vs', rfl, ⟨cs, h1, h2⟩, h3⟩ := hr
    cases ha with
    | val t =>
      obtain ⟨i1, i2⟩ := res_es rs d.2 vs' F (j + 1) nid (fun e => (pr e).2) al (by rw [hd]) h3 t hrt (fun k x cs hk => hc k x cs (List.mem_cons_of_mem _ hk))
      refine ⟨by simp [i1], fun i ent h => ?_⟩
      simp only [c_res, evs, look] at h
      split at h
      · rename_i hi
        obtain rfl := Option.some.inj h
        refine ⟨0, v, rfl, hi, ?_⟩
        show ESat _ _ _ _ _ (.val k (pr e).1) v
        rw [hd]
        exact ⟨cs, h1, hc k _ cs (List.mem_cons_self ..) h2⟩
      · obtain ⟨n, u, k1, k2, k3⟩ := i2 i ent h
        exact ⟨n + 1, u, by simpa using k1, by omega, k3⟩
  | (k, .own m) :: rs, d, us, F, j, nid, pr, al, hd, hr, ha, hrt, hc => by
    obtain ⟨v, vs', F1, F2, rfl, rfl, ⟨cs, h1, h2⟩, h3⟩ := hr
    cases ha with
    | own t =>
      obtain ⟨i1, i2⟩ := res_es rs d.2 vs' F2 (j + 1) (nid + 1) (fun e => (pr e).2) _ (by rw [hd]) h3 t (fun x hx => hrt x (List.mem_cons_of_mem _ hx)) (fun k x cs hk => hc k x cs (List.mem_cons_of_mem _ hk))
      refine ⟨by simp [i1], fun i ent h => ?_⟩
      simp only [c_res, evs, look] at h
      split at h
      · rename_i hi
        obtain rfl := Option.some.inj h
        obtain ⟨e1, e2⟩ := hrt _ (List.mem_cons_self ..)
        exact ⟨0, v, rfl, hi, _, e1, fun _ => e2.symm⟩
      · obtain ⟨n, u, k1, k2, k3⟩ := i2 i ent h
        exact ⟨n + 1, u, by simpa using k1, by omega, k3⟩

def callOk (P : Program) (f : FuncId) : Bool := match P.funcs[f]? with
  | some fn => !(fn.name == "runtime.NumGoroutine") && fn.body.isSome
  | none => false

def disjB (a b : List Nat) : Bool := a.all fun x => !b.contains x
def nodupB : List Nat → Bool
  | [] => true
  | x :: l => !l.contains x && nodupB l
theorem nodupB_spec : ∀ {l : List Nat}, nodupB l = true → l.Nodup
  | [], _ => List.nodup_nil
  | x :: l, h => by
    simp only [nodupB, Bool.and_eq_true, Bool.not_eq_true', List.contains_eq_mem, decide_eq_false_iff_not] at h
    exact List.nodup_cons.2 ⟨h.1, nodupB_spec h.2⟩

/-- Nothing that comes back leads to what is only read. -/
def tightSig (sg : Sig) : Bool := sg.rs.all (fun q => match q.2 with | .val => tight q.1 .sh | .own m => tight q.1 m) && (mutsOf sg.ps).all fun q => tight q.1 q.2

section
variable {E : Type} {P : Program} {o : Oper} {s : Lst E} {gs : Gs}

/-- The first of a function's entries that serves. -/
def tryT {β : Type 1} (f : FuncId) (g : Spec → Option β) : List (FuncId × Spec) → Option β
  | [] => none
  | (f', sp) :: l => if f = f' then match g sp with
    | some r => some r
    | none => tryT f g l
    else tryT f g l
theorem tryT_spec {β : Type 1} {f : FuncId} {g : Spec → Option β} : ∀ {l : List (FuncId × Spec)} {r : β}, tryT f g l = some r → ∃ sp, (f, sp) ∈ l ∧ g sp = some r
  | [], r, h => by cases h
  | (f', sp) :: l, r, h => by
    unfold tryT at h
    split at h
    · rename_i hf
      subst hf
      split at h
      · rename_i r' hr
        obtain rfl := Option.some.inj h
        exact ⟨sp, List.mem_cons_self .., hr⟩
      · obtain ⟨sp', h1, h2⟩ := tryT_spec h
        exact ⟨sp', List.mem_cons_of_mem _ h1, h2⟩
    · obtain ⟨sp', h1, h2⟩ := tryT_spec h
      exact ⟨sp', List.mem_cons_of_mem _ h1, h2⟩
def c_call1 (P : Program) (s : Lst E) (gs : Gs) (f : FuncId) (xs : List Operand) (sp : Spec) : Option (OC E) := match c_args s gs sp.sig.ps xs with
    | none => none
    | some A => if callOk P f && nodupB A.os && disjB A.os A.bs && A.os.all (fun r => A.ms.contains r || A.ts.contains r) && (A.bs.isEmpty || tightSig sp.sig) then
        let q := c_res (E' := E × (HL (sp.sig.rs.map (·.1)) × HL ((mutsOf sp.sig.ps).map (·.1)))) sp.sig.rs (if sp.sig.rs.length = 1 then 0 else 1) s.nx fun e => e.2.1
        some ⟨_, fun k e => sp.den k (A.d e), (HL.dflt _, HL.dflt _), q.1, (q.2 ++ c_mut s gs sp.sig.ps A.ms fun e => e.2.2) ++ A.ts.map fun r => (r, none), ownCount sp.sig.rs⟩
      else none
def c_call (P : Program) (tab : List (FuncId × Spec)) (s : Lst E) (gs : Gs) (f : FuncId) (xs : List Operand) : Option (OC E) := tryT f (c_call1 P s gs f xs) tab

/-- The call's soundness. -/
def SndC (P : Program) (Gl : World → Prop) (o : Oper) (s : Lst E) (gs : Gs) (r : OC E) : Prop :=
  ∀ (cx : Cx) (k : Nat) (e : E) (x : r.X) (g : G) (a : Act) (w : World) (V : Nat → Value) (Fp : Nat → List Nat) (Q : Exit → Act → World → Prop), cx.Gl = Gl → s.on gs e = true → r.den k e = some x → Agree g s e (opTmps o) r.n → (∀ t, o.dst = some t → cx.T t) → Pre cx g a w V Fp →
    o.wp P a w (fun a' w' => GSat cx (g.put o.dst (evs r.es (e, x)) (rtU g.rt r.ru (e, x))) a' w') Q

end
end Go.Lift

namespace Go.Lift
set_option linter.unusedVariables false
set_option linter.unusedSimpArgs false

theorem shal_cs {k : Kt} {p : List (St Nat)} {v : Value} {cs : List Value} (h : shal k p = true) (hs : Shows k v cs) : cs = [v] := by
  cases k <;> first | (simp [shal] at h; done) | (simp [Shows, Kt.isAgg] at hs; exact hs)
theorem resA_ge : ∀ {rs : List (Kt × RM)} {d : HL (rs.map (·.1))} {us : List Value} {nid : Nat} {al : List NR}, ResA rs d us nid al → (∀ x ∈ al, nid ≤ x.r) ∧ ∀ x ∈ al, ∀ l, lookR (al ++ l) x.r = some x
  | [], d, us, nid, al, h => by cases h; exact ⟨by simp, by simp⟩
  | (k, .val) :: rs, d, us, nid, al, h => by
    cases h with
    | val t => exact resA_ge t
  | (k, .own m) :: rs, d, us, nid, al, h => by
    cases h with
    | own t =>
      obtain ⟨h1, h2⟩ := resA_ge t
      refine ⟨fun x hx => ?_, fun x hx l => ?_⟩
      · rcases List.mem_cons.1 hx with rfl | hx
        · exact Nat.le_refl _
        · have := h1 x hx; omega
      · rcases List.mem_cons.1 hx with rfl | hx
        · simp [lookR, List.find?_cons]
        · have h3 := h1 x hx
          have : ¬ nid = x.r := by omega
          have e : (nid == x.r) = false := by simpa using this
          rw [List.cons_append]
          show List.find? _ (_ :: (_ ++ l)) = _
          rw [List.find?_cons]
          simp only [e]
          exact h2 x hx l
theorem resA_tight : ∀ {rs : List (Kt × RM)} {d : HL (rs.map (·.1))} {us : List Value} {nid : Nat} {al : List NR}, ResA rs d us nid al → (rs.all (fun q => match q.2 with | .val => tight q.1 .sh | .own m => tight q.1 m)) = true → ∀ x ∈ al, ∀ R, x.R = some R → tight R.k R.m = true
  | [], d, us, nid, al, h, ht => by cases h; simp
  | (k, .val) :: rs, d, us, nid, al, h, ht => by
    cases h with
    | val t => exact resA_tight t (by rw [List.all_cons, Bool.and_eq_true] at ht; exact ht.2)
  | (k, .own m) :: rs, d, us, nid, al, h, ht => by
    rw [List.all_cons, Bool.and_eq_true] at ht
    cases h with
    | own t =>
      intro x hx R hR
      rcases List.mem_cons.1 hx with rfl | hx
      · obtain rfl := Option.some.inj hR; exact ht.1
      · exact resA_tight t ht.2 x hx R hR
theorem mutA_mem {g : G} {V : Nat → Value} : ∀ {ps : List (Kt × PM)} {d : HL ((mutsOf ps).map (·.1))} {ms : List Nat} {al : List NR}, MutA g V ps d ms al →
    ∀ x ∈ al, ∃ k m hv y d', g.rt x.r = some (some ⟨k, m, hv, y⟩) ∧ m.isOw = true ∧ x.R = some ⟨k, m, hv + 1, d'⟩ ∧ x.v = V x.r ∧ (k, m) ∈ mutsOf ps
  | [], d, ms, al, h => by cases h; simp
  | (k, .val) :: ps, d, ms, al, h => by
    cases h with
    | val t =>
      have := mutA_mem (ps := ps) (d := d) t
      exact this
  | (k, .tak m) :: ps, d, ms, al, h => by
    cases h with
    | tak t =>
      have := mutA_mem (ps := ps) (d := d) t
      exact this
  | (k, .mut m) :: ps, d, ms, al, h => by
    cases h with
    | @«mut» _ _ hv y _ _ r ms F al hr hm t =>
      intro x hx
      rcases List.mem_cons.1 hx with rfl | hx
      · exact ⟨k, m, hv, y, d.1, hr, hm, rfl, rfl, List.mem_cons_self ..⟩
      · obtain ⟨k', m', hv', y', d', h1, h2, h3, h4, h5⟩ := mutA_mem t x hx
        exact ⟨k', m', hv', y', d', h1, h2, h3, h4, List.mem_cons_of_mem _ h5⟩
theorem mutI_born {g : G} {V : Nat → Value} {ps : List (Kt × PM)} {vs : List Value} {ms : List Nat} (h : MutI g V ps vs ms) : ∀ r ∈ ms, ∃ R, g.rt r = some (some R) := by
  induction h with
  | nil => simp
  | val t ih => exact ih
  | tak t ih => exact ih
  | «mut» hr hm hv t ih =>
    intro r hr'
    rcases List.mem_cons.1 hr' with rfl | hr'
    · exact ⟨_, hr⟩
    · exact ih r hr'
theorem flat_nodup {cx : Cx} {rt : Nat → Option GR} {V : Nat → Value} {Fp : Nat → List Nat} {w : World} (hM : Mem cx rt V Fp w) : ∀ {ms : List Nat}, ms.Nodup → (ms.flatMap Fp).Nodup
  | [], _ => List.nodup_nil
  | r :: ms, h => by
    rw [List.flatMap_cons, List.nodup_append]
    obtain ⟨h1, h2⟩ := List.nodup_cons.1 h
    refine ⟨hM.nodup r, flat_nodup hM h2, fun b hb c hc e => ?_⟩
    obtain ⟨q, hq, hq'⟩ := List.mem_flatMap.1 hc
    exact hM.disj r q (fun e => h1 (e ▸ hq)) b hb (e ▸ hq')

section
variable {E : Type} {P : Program} {o : Oper} {s : Lst E} {gs : Gs}

theorem c_args_ms : ∀ {ps : List (Kt × PM)} {xs : List Operand} {A : CA E ps}, c_args s gs ps xs = some A → ∀ r ∈ A.ms, ∃ x R, x ∈ xs ∧ s.op gs x = some (.own r) ∧ s.root gs r = some R
  | [], xs, A, h => by
    cases xs with
    | nil => obtain rfl := Option.some.inj h; simp
    | cons x xs => simp [c_args] at h
  | (k, .val) :: ps, xs, A, h => by
    cases xs with
    | nil => simp [c_args] at h
    | cons x xs =>
      simp only [c_args] at h
      split at h <;> try (cases h; done)
      rename_i A0 hA0
      have ih := c_args_ms hA0
      have done_ : A.ms = A0.ms → ∀ r ∈ A.ms, ∃ x' R, x' ∈ x :: xs ∧ s.op gs x' = some (.own r) ∧ s.root gs r = some R := by
        intro he r hr
        rw [he] at hr
        obtain ⟨x', R, h1, h2⟩ := ih r hr
        exact ⟨x', R, List.mem_cons_of_mem _ h1, h2⟩
      have fin : ∀ {B : CA E ((k, .val) :: ps)}, some B = some A → B.ms = A0.ms → ∀ r ∈ A.ms, ∃ x' R, x' ∈ x :: xs ∧ s.op gs x' = some (.own r) ∧ s.root gs r = some R := by
        intro B hB hm
        obtain rfl := Option.some.inj hB
        exact done_ hm
      split at h <;> try (cases h; done)
      · split at h
        · exact fin h rfl
        · split at h
          · exact fin h rfl
          · split at h
            · exact fin h rfl
            · split at h <;> first | (cases h; done) | exact fin h rfl
      · split at h <;> try (cases h; done)
        split at h
        · split at h <;> first | (cases h; done) | exact fin h rfl
        · split at h
          · split at h <;> first | (cases h; done) | exact fin h rfl
          · split at h <;> try (cases h; done)
            split at h <;> first | (cases h; done) | exact fin h rfl
      · split at h <;> try (cases h; done)
        exact fin h rfl
      · split at h <;> try (cases h; done)
        exact fin h rfl
      · split at h <;> try (cases h; done)
        split at h <;> try (cases h; done)
        split at h <;> try (cases h; done)
        split at h
        · split at h <;> first | (cases h; done) | exact fin h rfl
        · split at h <;> try (cases h; done)
          split at h <;> first | (cases h; done) | exact fin h rfl
  | (k, .mut m) :: ps, xs, A, h => by
    cases xs with
    | nil => simp [c_args] at h
    | cons x xs =>
      simp only [c_args] at h
      split at h <;> try (cases h; done)
      rename_i A0 hA0
      have ih := c_args_ms hA0
      split at h <;> try (cases h; done)
      rename_i r hx
      split at h <;> try (cases h; done)
      rename_i R hR
      split at h <;> try (cases h; done)
      split at h <;> try (cases h; done)
      obtain rfl := Option.some.inj h
      intro r' hr'
      rcases List.mem_cons.1 hr' with rfl | hr'
      · exact ⟨x, R, List.mem_cons_self .., hx, hR⟩
      · obtain ⟨x', R, h1, h2⟩ := ih r' hr'
        exact ⟨x', R, List.mem_cons_of_mem _ h1, h2⟩
  | (k, .tak m) :: ps, xs, A, h => by
    cases xs with
    | nil => simp [c_args] at h
    | cons x xs =>
      simp only [c_args] at h
      split at h <;> try (cases h; done)
      rename_i A0 hA0
      have ih := c_args_ms hA0
      split at h <;> try (cases h; done)
      rename_i r hx
      split at h <;> try (cases h; done)
      rename_i R hR
      split at h <;> try (cases h; done)
      split at h <;> try (cases h; done)
      obtain rfl := Option.some.inj h
      intro r' hr'
      obtain ⟨x', R, h1, h2⟩ := ih r' hr'
      exact ⟨x', R, List.mem_cons_of_mem _ h1, h2⟩

/-- What a call leaves as it was: the headers of all roots; and all of those that are not handed in to be changed. -/
def KeepR (g : G) (V V' : Nat → Value) (Fp Fp' : Nat → List Nat) (w w' : World) (os : List Nat) : Prop :=
  ∀ q R, g.rt q = some (some R) → V' q = V q ∧ (q ∉ os → Fp' q = Fp q ∧ ∀ b ∈ Fp q, w'.heap[b]? = w.heap[b]?)
/-- A call, by what its arguments are. -/
theorem call_coreS {Gl : World → Prop} {f : FuncId} {sp : Spec} (hfn : FnOk P Gl f sp) {ds : HL (sp.sig.ps.map (·.1))} {vals : List Value} {bs ms ts os : List Nat} {cx : Cx} {k : Nat} {e : E} {g : G} {a : Act} {w : World} {V : Nat → Value} {Fp : Nat → List Nat} {Q : Exit → Act → World → Prop}
    {x : HL (sp.sig.rs.map (·.1)) × HL ((mutsOf sp.sig.ps).map (·.1))} (hGl : cx.Gl = Gl) (hden : sp.den k ds = some x) (hp : Pre cx g a w V Fp) (hd : ∀ t, o.dst = some t → cx.T t) (hargs : ArgsR w (Borrow (cx.Sh Fp) Fp bs) sp.sig.ps ds vals (os.flatMap Fp)) (hmuti : MutI g V sp.sig.ps vals ms)
    (hc2 : nodupB os = true) (hc3 : disjB os bs = true) (hc5 : (os.all fun r => ms.contains r || ts.contains r) = true) (hc4 : (bs.isEmpty || tightSig sp.sig) = true) (hnew : ∀ i, i < ownCount sp.sig.rs → g.rt (s.nx + i) = none)
    (hroots : ∀ r ∈ ms, ∃ R, s.root gs r = some R ∧ g.rt r = some (some (R.ev e))) (hrun : (execOp a.eval o).run P w = .ok (.enter f vals.toArray) w) :
    o.wp P a w (fun a' w' => ∃ V' Fp', Pre cx (g.put o.dst (evs (c_res (E' := E × (HL (sp.sig.rs.map (·.1)) × HL ((mutsOf sp.sig.ps).map (·.1)))) sp.sig.rs (if sp.sig.rs.length = 1 then 0 else 1) s.nx fun e => e.2.1).1 (e, x))
      (rtU g.rt (((c_res (E' := E × (HL (sp.sig.rs.map (·.1)) × HL ((mutsOf sp.sig.ps).map (·.1)))) sp.sig.rs (if sp.sig.rs.length = 1 then 0 else 1) s.nx fun e => e.2.1).2 ++ c_mut s gs sp.sig.ps ms fun e => e.2.2) ++ ts.map fun r => (r, none)) (e, x))) a' w' V' Fp' ∧ KeepR g V V' Fp Fp' w w' (ms ++ ts)) Q := by
  have hFnd := flat_nodup hp.mem (nodupB_spec hc2)
  have hdis : ∀ r ∈ os, r ∉ bs := by
    intro r hr hb
    unfold disjB at hc3
    rw [List.all_eq_true] at hc3
    have := hc3 r hr
    simp [hb] at this
  have hFS : ∀ b ∈ os.flatMap Fp, ¬ Borrow (cx.Sh Fp) Fp bs b := by
    intro b hb hS
    obtain ⟨r, hr, hbr⟩ := List.mem_flatMap.1 hb
    rcases hS with hS | ⟨q, hq, hbq⟩
    · exact hS.2 r hbr
    · exact hp.mem.disj r q (fun e => hdis r hr (e ▸ hq)) b hbr hbq
  have hFown : ∀ b ∈ os.flatMap Fp, cx.M b ∨ cx.w0.heap.size ≤ b := by
    intro b hb
    obtain ⟨r, hr, hbr⟩ := List.mem_flatMap.1 hb
    exact hp.mem.own r b hbr
  have hcalls := hfn k ds x hden w _ _ _ (fun w' hw' => hGl ▸ hp.mem.gl hFown hw') hargs hFnd hFS
  unfold Oper.wp
  rw [hrun]
  refine hcalls.mono fun en w' hen => ?_
  obtain ⟨us, Fr', Fm, rfl, hfr, hnd, hsub, hres, hmut⟩ := hen
  show ∃ V' Fp', Pre cx (g.put o.dst _ _) (a.put o.dst (tup us)) w' V' Fp' ∧ KeepR g V V' Fp Fp' w w' (ms ++ ts)
  obtain ⟨al, l1, l2, l3, l4⟩ := res_al sp.sig.rs x.1 us Fr' s.nx hres
  obtain ⟨bl, b1, b2, b3, b4⟩ := mut_al sp.sig.ps x.2 _ Fm ms hmuti hmut
  generalize hcl : (ts.map fun r => (⟨r, none, V r, []⟩ : NR)) = cl
  have hcl1 : cl.flatMap (·.F) = [] := by
    rw [← hcl]
    induction ts with
    | nil => rfl
    | cons d ds ih => simp [List.map_cons, List.flatMap_cons, ih]
  have hclN : ∀ y ∈ cl, y.R = none ∧ y.F = [] ∧ y.v = V y.r := fun y hy => by
    rw [← hcl] at hy
    obtain ⟨r, _, rfl⟩ := List.mem_map.1 hy
    exact ⟨rfl, rfl, rfl⟩
  have hos : ∀ r ∈ os, ∃ y ∈ al ++ (bl ++ cl), y.r = r := fun r hr => by
    have := List.all_eq_true.1 hc5 r hr
    rw [Bool.or_eq_true] at this
    rcases this with h | h
    · have h : r ∈ ms := by simpa using h
      rw [← b3] at h
      obtain ⟨y, hy, rfl⟩ := List.mem_map.1 h
      exact ⟨y, List.mem_append_right _ (List.mem_append_left _ hy), rfl⟩
    · have h : r ∈ ts := by simpa using h
      exact ⟨⟨r, none, V r, []⟩, List.mem_append_right _ (List.mem_append_right _ (by rw [← hcl]; exact List.mem_map.2 ⟨r, h, rfl⟩)), rfl⟩
  have hflat : (al ++ (bl ++ cl)).flatMap (·.F) = Fr' ++ Fm := by rw [List.flatMap_append, List.flatMap_append, l1, b1, hcl1, List.append_nil]
  have hru : rtU g.rt ((c_res (E' := E × (HL (sp.sig.rs.map (·.1)) × HL ((mutsOf sp.sig.ps).map (·.1)))) sp.sig.rs (if sp.sig.rs.length = 1 then 0 else 1) s.nx fun e => e.2.1).2 ++ (c_mut s gs sp.sig.ps ms fun e => e.2.2) ++ ts.map fun r => (r, none)) (e, x) = rtA g.rt (al ++ (bl ++ cl)) := by
    refine (rtA_rtU ?_ g.rt).symm
    have hct : cl.map (fun y => (y.r, y.R)) = (ts.map fun r => ((r, none) : Nat × Option (Root (E × (HL (sp.sig.rs.map (·.1)) × HL ((mutsOf sp.sig.ps).map (·.1))))))).map (fun q => (q.1, q.2.map (Root.ev (e, x)))) := by
      rw [← hcl, List.map_map, List.map_map]; rfl
    rw [List.map_append, List.map_append, List.map_append, List.map_append, hct, res_ru (E' := E × (HL (sp.sig.rs.map (·.1)) × HL ((mutsOf sp.sig.ps).map (·.1)))) (e := (e, x)) l2 (if sp.sig.rs.length = 1 then 0 else 1) (fun e => e.2.1) rfl, mut_ru (E' := E × (HL (sp.sig.rs.map (·.1)) × HL ((mutsOf sp.sig.ps).map (·.1)))) (e' := (e, x)) b2 (fun e => e.2.2) rfl hroots]
    simp only [List.append_assoc]
  rw [hru]
  have hms : ∀ b ∈ os.flatMap Fp, ∃ y ∈ al ++ (bl ++ cl), b ∈ Fp y.r := by
    intro b hb
    obtain ⟨r, hr, hbr⟩ := List.mem_flatMap.1 hb
    obtain ⟨y, hy, rfl⟩ := hos r hr
    exact ⟨y, hy, hbr⟩
  have hborn : ∀ y ∈ al, g.rt y.r = none := by
    intro y hy
    have := l3 y hy
    have h1 := hnew (y.r - s.nx) (by omega)
    rwa [show s.nx + (y.r - s.nx) = y.r by omega] at h1
  have conv : ∀ (kk : Kt) (m : Mk) (F : List Nat) (z : kk.T) (cs : List Value), (tightSig sp.sig = true → tight kk m = true) → Rz w' (After (Borrow (cx.Sh Fp) Fp bs) (os.flatMap Fp) w.heap.size (Fr' ++ Fm)) kk m F z cs → Rz w' (cx.Sh (fA Fp (al ++ (bl ++ cl)))) kk m F z cs := by
    intro kk m F z cs ht hz
    rw [Bool.or_eq_true] at hc4
    rcases hc4 with hb | hb
    · have hbs : bs = [] := by simpa using hb
      refine Rz_keep ⟨Nat.le_refl _, fun b hb hlt => ⟨rfl, ?_⟩⟩ _ _ _ _ _ (fun _ _ => rfl) hz
      obtain ⟨h1, h2⟩ := hb
      refine ⟨?_, fun r hr => ?_⟩
      · rcases h1 with (h1 | ⟨q, hq, _⟩) | h1 | h1
        · exact h1.1
        · rw [hbs] at hq; cases hq
        · exact (hFown b h1).elim (fun h => .inr (.inl h)) (fun h => .inr (.inr h))
        · exact .inr (.inr (Nat.le_trans hp.mem.size h1))
      · unfold fA at hr
        split at hr
        · rename_i y hy
          exact h2 (by rw [← hflat]; exact List.mem_flatMap.2 ⟨y, (lookR_some hy).1, hr⟩)
        · rename_i hy
          rcases h1 with (h1 | ⟨q, hq, _⟩) | h1 | h1
          · exact h1.2 r hr
          · rw [hbs] at hq; cases hq
          · obtain ⟨q, hq, hbq⟩ := List.mem_flatMap.1 h1
            refine hp.mem.disj r q (fun e => ?_) b hr hbq
            obtain ⟨y, hy', rfl⟩ := hos q hq
            exact lookR_none hy y hy' e.symm
          · have := hp.mem.lt hr; omega
    · exact Rz_tight _ _ _ _ _ (ht hb) hz
  have tightR : tightSig sp.sig = true → ∀ y ∈ al ++ (bl ++ cl), ∀ R, y.R = some R → tight R.k R.m = true := by
    intro ht y hy R hR
    unfold tightSig at ht
    rw [Bool.and_eq_true] at ht
    rcases List.mem_append.1 hy with hy | hy
    · exact resA_tight l2 ht.1 y hy R hR
    rcases List.mem_append.1 hy with hy | hy
    · obtain ⟨k', m', hv', y', d', h1, h2, h3, h4, h5⟩ := mutA_mem b2 y hy
      rw [h3] at hR
      obtain rfl := Option.some.inj hR
      have := List.all_eq_true.1 ht.2 _ h5
      exact this
    · rw [(hclN y hy).1] at hR; cases hR
  have hrzN : ∀ y ∈ al ++ (bl ++ cl), y.R ≠ none → RzN w' (After (Borrow (cx.Sh Fp) Fp bs) (os.flatMap Fp) w.heap.size (Fr' ++ Fm)) y := by
    intro y hy hne
    rcases List.mem_append.1 hy with hy | hy
    · exact l4 y hy
    rcases List.mem_append.1 hy with hy | hy
    · exact b4 y hy
    · exact absurd (hclN y hy).1 hne
  have keep : KeepR g V (vA V (al ++ (bl ++ cl))) Fp (fA Fp (al ++ (bl ++ cl))) w w' (ms ++ ts) := by
    intro q R hR
    refine ⟨?_, fun hq => ?_⟩
    · unfold vA
      split
      · rename_i y hy
        obtain ⟨y1, y2⟩ := lookR_some hy
        rcases List.mem_append.1 y1 with y1 | y1
        · have := hborn y y1
          rw [y2, hR] at this; cases this
        rcases List.mem_append.1 y1 with y1 | y1
        · obtain ⟨k', m', hv', z', d', h1, h2, h3, h4, h5⟩ := mutA_mem b2 y y1
          rw [h4, y2]
        · rw [(hclN y y1).2.2, y2]
      · rfl
    · have hn : lookR (al ++ (bl ++ cl)) q = none := by
        cases hl : lookR (al ++ (bl ++ cl)) q with
        | none => rfl
        | some y =>
          obtain ⟨y1, y2⟩ := lookR_some hl
          rcases List.mem_append.1 y1 with y1 | y1
          · have := hborn y y1
            rw [y2, hR] at this; cases this
          rcases List.mem_append.1 y1 with y1 | y1
          · have : y.r ∈ ms := by rw [← b3]; exact List.mem_map.2 ⟨y, y1, rfl⟩
            exact absurd (List.mem_append_left _ (y2 ▸ this)) hq
          · rw [← hcl] at y1
            obtain ⟨r, hr, rfl⟩ := List.mem_map.1 y1
            exact absurd (List.mem_append_right _ (y2 ▸ hr)) hq
      simp only [fA, hn]
      refine ⟨trivial, fun b hb => hfr.frame b (hp.mem.lt hb) fun hbF => ?_⟩
      obtain ⟨r, hr, hbr⟩ := List.mem_flatMap.1 hbF
      refine hp.mem.disj q r (fun e => hq ?_) b hb hbr
      have := List.all_eq_true.1 hc5 r hr
      rw [Bool.or_eq_true] at this
      rw [e]
      rcases this with h | h
      · exact List.mem_append_left _ (by simpa using h)
      · exact List.mem_append_right _ (by simpa using h)
  refine ⟨_, _, ?_, keep⟩
  refine hp.manyS (al ++ (bl ++ cl)) hfr hms (fun y hy b hb => ?_) (by rw [hflat]; exact hnd) (fun y hy hR => ?_) (fun y hy R hR hK => ?_) (fun y hy hl hK => ?_) hd (fun i ent hi hK => ?_)
  · have hb' : b ∈ Fr' ++ Fm := by rw [← hflat]; exact List.mem_flatMap.2 ⟨y, hy, hb⟩
    rcases hsub b hb' with h1 | h1
    · exact .inr (hms b h1)
    · exact .inl h1
  · rcases List.mem_append.1 hy with hy | hy
    · obtain ⟨R, cs, h1, _⟩ := l4 y hy
      rw [hR] at h1; cases h1
    rcases List.mem_append.1 hy with hy | hy
    · obtain ⟨R, cs, h1, _⟩ := b4 y hy
      rw [hR] at h1; cases h1
    · exact (hclN y hy).2.1
  · obtain ⟨R', cs, h1, h2, h3⟩ := hrzN y hy (by rw [hR]; simp)
    rw [hR] at h1
    obtain rfl := Option.some.inj h1
    exact ⟨cs, h2, conv _ _ _ _ _ (fun ht => tightR ht y hy R hR) h3⟩
  · rcases List.mem_append.1 hy with hy' | hy'
    · rw [hborn y hy']; trivial
    rcases List.mem_append.1 hy' with hy' | hy'
    · obtain ⟨k', m', hv', y', d', h1, h2, h3, h4, h5⟩ := mutA_mem b2 y hy'
      rw [h1, h3]
      obtain ⟨m1, hm1⟩ := how_of h2
      refine .inr ⟨m', hv' + 1, d', rfl, ?_, .inr ⟨Nat.lt_succ_self _, fun _ _ => ⟨m1, hm1⟩, fun p hp' => ?_⟩⟩
      · simp only [vA, hl]; exact h4
      · obtain ⟨cs, z1, z2⟩ := hp.mem.roots y.r _ h1
        obtain ⟨R', cs', z3, z4, z5⟩ := hrzN y hy (by rw [h3]; simp)
        rw [h3] at z3
        obtain rfl := Option.some.inj z3
        have e1 := shal_cs hp' z1
        have e2 := shal_cs hp' z4
        have e3 : hdr k' (V y.r) = [V y.r] := by rw [shows_hdr z1, e1]
        show adr w' k' none (hdr k' (V y.r)) p = adr w k' none (hdr k' (V y.r)) p
        rw [e3]
        rw [e1] at z2
        rw [e2, h4] at z5
        have z2 : Rz w (cx.Sh Fp) k' m' (Fp y.r) y' [V y.r] := z2
        have z5 : Rz w' _ k' m' y.F d' [V y.r] := z5
        rw [hm1] at z2 z5
        exact adr_same z2 z5 hp'
    · rw [(hclN y hy').1]
      cases g.rt y.r with
      | none => trivial
      | some q => cases q with
        | none => rfl
        | some R => exact .inl rfl
  · obtain ⟨e1, e2⟩ := res_es (cx := cx) (rt' := rtA g.rt (al ++ (bl ++ cl))) (V' := vA V (al ++ (bl ++ cl))) (Fp' := fA Fp (al ++ (bl ++ cl))) (e := (e, x)) sp.sig.rs x.1 us Fr' (if sp.sig.rs.length = 1 then 0 else 1) s.nx (fun e => e.2.1) al rfl hres l2 (fun y hy => by
      have := (resA_ge l2).2 y hy (bl ++ cl)
      simp only [rtA, vA, this]
      exact ⟨trivial, trivial⟩) (fun k' z cs hk hz => conv _ _ _ _ _ (fun ht => by
        unfold tightSig at ht
        rw [Bool.and_eq_true] at ht
        exact List.all_eq_true.1 ht.1 _ hk) hz)
    obtain ⟨n, u, k1, k2, k3⟩ := e2 i ent hi
    refine ⟨u, ?_, k3⟩
    rw [k2]
    by_cases hl : sp.sig.rs.length = 1
    · rw [if_pos hl]
      rw [hl] at e1
      match us, e1, k1 with
      | [v], _, k1 =>
        cases n with
        | zero => exact k1
        | succ n => simp at k1
    · rw [if_neg hl]
      have : tup us = .tuple us.toArray := by
        match us, e1 with
        | [], _ => rfl
        | [v], e1 => exact absurd e1.symm hl
        | _ :: _ :: _, _ => rfl
      rw [this, Nat.add_comm]
      simpa [part] using k1
theorem call_core {Gl : World → Prop} {f : FuncId} {sp : Spec} (hfn : FnOk P Gl f sp) {ds : HL (sp.sig.ps.map (·.1))} {vals : List Value} {bs ms ts os : List Nat} {cx : Cx} {k : Nat} {e : E} {g : G} {a : Act} {w : World} {V : Nat → Value} {Fp : Nat → List Nat} {Q : Exit → Act → World → Prop}
    {x : HL (sp.sig.rs.map (·.1)) × HL ((mutsOf sp.sig.ps).map (·.1))} (hGl : cx.Gl = Gl) (hden : sp.den k ds = some x) (hp : Pre cx g a w V Fp) (hd : ∀ t, o.dst = some t → cx.T t) (hargs : ArgsR w (Borrow (cx.Sh Fp) Fp bs) sp.sig.ps ds vals (os.flatMap Fp)) (hmuti : MutI g V sp.sig.ps vals ms)
    (hc2 : nodupB os = true) (hc3 : disjB os bs = true) (hc5 : (os.all fun r => ms.contains r || ts.contains r) = true) (hc4 : (bs.isEmpty || tightSig sp.sig) = true) (hnew : ∀ i, i < ownCount sp.sig.rs → g.rt (s.nx + i) = none)
    (hroots : ∀ r ∈ ms, ∃ R, s.root gs r = some R ∧ g.rt r = some (some (R.ev e))) (hrun : (execOp a.eval o).run P w = .ok (.enter f vals.toArray) w) :
    o.wp P a w (fun a' w' => GSat cx (g.put o.dst (evs (c_res (E' := E × (HL (sp.sig.rs.map (·.1)) × HL ((mutsOf sp.sig.ps).map (·.1)))) sp.sig.rs (if sp.sig.rs.length = 1 then 0 else 1) s.nx fun e => e.2.1).1 (e, x))
      (rtU g.rt (((c_res (E' := E × (HL (sp.sig.rs.map (·.1)) × HL ((mutsOf sp.sig.ps).map (·.1)))) sp.sig.rs (if sp.sig.rs.length = 1 then 0 else 1) s.nx fun e => e.2.1).2 ++ c_mut s gs sp.sig.ps ms fun e => e.2.2) ++ ts.map fun r => (r, none)) (e, x))) a' w') Q := 
  Oper.wp_mono (fun a' w' ⟨V', Fp', h, _⟩ => h.gs) (call_coreS (Q := Q) hfn hGl hden hp hd hargs hmuti hc2 hc3 hc5 hc4 hnew hroots hrun)

theorem snd_call {Gl : World → Prop} {tab : List (FuncId × Spec)} (htab : ∀ f sp, (f, sp) ∈ tab → FnOk P Gl f sp) {f : FuncId} {xs : List Operand} {ta : Array TypeId} {r : OC E} (ho : o.op = .call { callee := .value (.func f), args := xs.toArray, argTypes := ta }) (h : c_call P tab s gs f xs = some r) : SndC P Gl o s gs r := by
  unfold c_call at h
  obtain ⟨sp, hsp, h⟩ := tryT_spec h
  unfold c_call1 at h
  split at h <;> try (cases h; done)
  rename_i A hA0
  split at h <;> try (cases h; done)
  rename_i hc
  simp only [Bool.and_eq_true] at hc
  obtain ⟨⟨⟨⟨hc1, hc2⟩, hc3⟩, hc5⟩, hc4⟩ := hc
  obtain rfl := Option.some.inj h
  intro cx k e x g a w V Fp Q hGl hon hden hA hd hp
  have hm : ∀ y ∈ xs, y ∈ o.op.operands := by intro y hy; simp [ho, Op.operands, Call.operands, hy]
  obtain ⟨hargs, hmuti⟩ := c_args_spec hp hA hon A.bs sp.sig.ps xs A hA0 hm (fun r h => h)
  have hroots : ∀ r ∈ A.ms, ∃ R, s.root gs r = some R ∧ g.rt r = some (some (R.ev e)) := by
    intro r hr
    obtain ⟨y, R, h1, h2, h3⟩ := c_args_ms hA0 r hr
    exact ⟨R, h3, (Lst.op_root hA (hm y h1) h2 (List.mem_singleton_self _)).trans (Lst.root_gr hon h3)⟩
  have hrun : (execOp a.eval o).run P w = .ok (.enter f (xs.map a.eval).toArray) w := by
    unfold callOk at hc1
    split at hc1 <;> try (cases hc1; done)
    rename_i fn hfn
    simp only [Bool.and_eq_true, Bool.not_eq_true'] at hc1
    have n1 : fn.name ≠ "runtime.NumGoroutine" := by simpa using hc1.1
    have n2 : fn.body ≠ none := by intro h0; rw [h0] at hc1; cases hc1.2
    simp [execOp, ho, resolve, Act.eval, Deferred.ofValue, invoke, callFunc, hfn, n1, n2]
  exact call_core (htab f sp hsp) hGl hden hp hd hargs hmuti hc2 hc3 hc5 hc4 hA.new hroots hrun

end
end Go.Lift

namespace Go.Lift
set_option linter.unusedVariables false
set_option linter.unusedSimpArgs false

/-! ### build: a struct's value -/
def placesOf (P : Program) (t : TypeId) : Option (List (Nat × Nat)) := match P.underlying t with
  | some (.struct fs) => fs.toList.mapM fun f => (P.info? f.type).map fun i => (f.offset, i.size)
  | _ => none

theorem fill_put {place : Nat → Option (Nat × Nat)} {i off sz : Nat} {v : Value} {c1 c c2 : List Value} {rest : List (Nat × Value)} (hp : place i = some (off, sz)) (hv : v.cells.toList.length = sz) (hoff : c1.length = off) (hc : c.length = sz) :
    Instr.fill place (c1 ++ (c ++ c2)).toArray ((i, v) :: rest) = Instr.fill place (c1 ++ (v.cells.toList ++ c2)).toArray rest := by
  have hv' : v.cells.size = sz := by simpa using hv
  rw [Instr.fill]
  simp only [hp]
  rw [if_neg (show ¬ ((decide (v.cells.size ≠ sz) || decide (off + v.cells.size > (c1 ++ (c ++ c2)).toArray.size)) = true) by
    simp only [Bool.or_eq_true, decide_eq_true_eq]
    rintro (h | h)
    · exact h hv'
    · simp only [List.size_toArray, List.length_append, hv', hoff, hc] at h; omega)]
  have : v.cells.zipIdx.foldl (fun cs (x : Value × Nat) => match x with | (c, j) => cs.setIfInBounds (off + j) c) (c1 ++ (c ++ c2)).toArray = (c1 ++ (v.cells.toList ++ c2)).toArray := by
    rw [← Array.foldl_toList, Array.toList_zipIdx, ← hoff]
    exact foldl_put c1 v.cells.toList c c2 (by rw [hv, hc])
  rw [this]

section
variable {E : Type}
def c_bparts (P : Program) (s : Lst E) (gs : Gs) (pl : List (Nat × Nat)) (k : Kt) : List (Nat × Operand) → Mk → (E → k.T) → List Nat → Option (Mk × (E → k.T) × List Nat)
  | [], m, x, ds => some (m, x, ds)
  | (i, y) :: ps, m, x, ds => match lens (E := E) k m (fpath E i), foffS k (fpath E i) with
    | some L, some off => if pl[i]? = some (off, L.k'.size) then match s.op gs y with
      | some (.val k' z) => if hk : k' = L.k' then match mset k m (fpath E i).sh .sh with
        | some mr => c_bparts P s gs pl k ps mr (fun e => L.put e (x e) (hk ▸ z e)) ds
        | none => none
        else match toFnv L.k' k', mset k m (fpath E i).sh .sh with
        | some f, some mr => c_bparts P s gs pl k ps mr (fun e => L.put e (x e) (fnvD L.k' f)) ds
        | _, _ => none
      | some (.own q) => if ds.contains q then none else match s.root gs q with
        | some Rq => if hk : Rq.k = L.k' then match mset k m (fpath E i).sh Rq.m with
          | some mr => c_bparts P s gs pl k ps mr (fun e => L.put e (x e) (hk ▸ Rq.x e)) (q :: ds)
          | none => none
          else none
        | none => none
      | some (.cst (.slice none 0 0)) => match L with
        | ⟨.sl T el, m', get, put, ok⟩ => match mset k m (fpath E i).sh (.ow (zm el)) with
          | some mr => c_bparts P s gs pl k ps mr (fun e => put e (x e) []) ds
          | none => none
        | _ => none
      | some (.cst .nilIface) => match L with
        | ⟨.ifc T el, m', get, put, ok⟩ => match mset k m (fpath E i).sh (.ow .sh) with
          | some mr => c_bparts P s gs pl k ps mr (fun e => put e (x e) none) ds
          | none => none
        | _ => none
      | _ => none
      else none
    | _, _ => none
def deadL (ds : List Nat) : List (Nat × Option (Root E)) := ds.map fun q => (q, none)
def c_build (P : Program) (s : Lst E) (gs : Gs) (t : TypeId) (k : Kt) (parts : Array (Nat × Operand)) : Option (OR E) :=
  if k.isAgg && zeroOk P t k && ((P.info? t).bind (·.zero)).isSome then match placesOf P t with
    | some pl => match c_bparts P s gs pl k parts.toList (zm k) (fun _ => k.dflt) [] with
      | some (m, x, ds) => if m.free then some ⟨none, [(0, .val k x)], deadL ds, 0⟩ else some ⟨none, [(0, .own s.nx)], (s.nx, some ⟨k, m, 0, x⟩) :: deadL ds, 1⟩
      | none => none
    | none => none
  else none
end

section
variable {E : Type} {P : Program} {cx : Cx} {g : G} {a : Act} {w : World} {V : Nat → Value} {Fp : Nat → List Nat} {o : Oper} {Q : Exit → Act → World → Prop} {s : Lst E} {gs : Gs} {e : E}

theorem own_cells {rt : Nat → Option GR} {V : Nat → Value} {k : Kt} {m : Mk} {F : List Nat} {x : k.T} {v : Value} {cs : List Value} {Sh : Nat → Prop} (hs : Shows k v cs) (h2 : Rz w Sh k m F x cs) : v.cells.toList = cs := by
  unfold Shows at hs
  split at hs
  · rw [hs]; rfl
  · rw [hs] at h2
    have := Rz_one _ _ _ _ _ _ _ h2 v (List.mem_singleton_self _)
    rw [hs]
    cases hv : v <;> rw [hv] at this <;> first | rfl | (simp [Value.oneCell'] at this; done)

theorem bput (hp : Pre cx g a w V Fp) {k : Kt} {m mn mr : Mk} {i : Nat} {L : Lens E k} (hL : lens (E := E) k m (fpath E i) = some L) {off : Nat} (hoff : foffS k (fpath E i) = some off) (hms : mset k m (fpath E i).sh mn = some mr) {pl : List (Nat × Nat)} (hpl : pl[i]? = some (off, L.k'.size))
    {F Fn : List Nat} {x : k.T} {cs : List Value} (hz : Rz w (cx.Sh Fp) k m F x cs) (hn : F.Nodup) (hn2 : Fn.Nodup) (hd : ∀ b ∈ Fn, b ∉ F) {y : L.k'.T} {v : Value} (hy : Rz w (cx.Sh Fp) L.k' mn Fn y v.cells.toList) (rest : List (Nat × Value)) :
    ∃ F' cs', Instr.fill (fun i => pl[i]?) cs.toArray ((i, v) :: rest) = Instr.fill (fun i => pl[i]?) cs'.toArray rest ∧ Rz w (cx.Sh Fp) k mr F' (L.put e x y) cs' ∧ F'.Nodup ∧ ∀ b ∈ F', b ∈ F ∨ b ∈ Fn := by
  have hl := lens_is _ _ _ _ hL
  obtain ⟨Fa, Fo, Fb, c, rfl, hc, H⟩ := Go.Lift.hole e hl (noix_ok hl (noix_fpath i) e _) hn hz
  obtain ⟨f1, f2⟩ := foffS_at e _ _ _ hoff
  rcases H with ⟨c1, c2, rfl, k2, k3⟩ | ⟨b, c1, c2, T, _, k2, _⟩
  · have hlen : c1.length = off := by
      have := k2 (some (0, 0))
      rw [adr_flat _ _ _ _ _ f1, f2] at this
      simpa using this.symm
    have hcl := Rz_len _ _ _ _ _ _ _ hc
    have hvl := Rz_len _ _ _ _ _ _ _ hy
    have := (k3 w (cx.Sh Fp) mn mr Fn y v.cells.toList ⟨Nat.le_refl _, fun b hb _ => ⟨rfl, hb⟩⟩ (fun _ _ => rfl) (mset_spec e _ _ _ _ _ hms) hy).1
    refine ⟨_, _, fill_put hpl hvl hlen hcl, this, ?_, fun b hb => ?_⟩
    · have n1 := List.nodup_append.1 hn
      have n2 := List.nodup_append.1 n1.2.1
      refine List.nodup_append.2 ⟨n1.1, List.nodup_append.2 ⟨hn2, n2.2.1, fun u hu v hv e => hd u hu (by rw [e]; simp [hv])⟩, fun u hu v hv e => ?_⟩
      rcases List.mem_append.1 hv with hv | hv
      · exact hd v hv (by rw [← e]; simp [hu])
      · exact n1.2.2 u hu v (List.mem_append_right _ hv) e
    · simp only [List.mem_append] at hb ⊢
      rcases hb with hb | hb | hb
      · exact .inl (.inl hb)
      · exact .inr hb
      · exact .inl (.inr (.inr hb))
  · have := k2 none
    rw [adr_flat _ _ _ _ _ f1] at this
    cases this

theorem bparts_ok (hp : Pre cx g a w V Fp) (h1 : s.on gs e = true) {pl : List (Nat × Nat)} {k : Kt} : ∀ (parts : List (Nat × Operand)) (m : Mk) (x : E → k.T) (ds : List Nat) (m' : Mk) (x' : E → k.T) (ds' : List Nat), c_bparts P s gs pl k parts m x ds = some (m', x', ds') →
    (∀ q ∈ parts, (∀ en, s.op gs q.2 = some en → ESat cx g.rt V Fp w (en.ev e) (a.eval q.2)) ∧ ∀ en r, s.op gs q.2 = some en → r ∈ en.roots → g.rt r = (s.gr e).rt r) →
    ∀ F cs, Rz w (cx.Sh Fp) k m F (x e) cs → F.Nodup → (∀ b ∈ F, ∃ q ∈ ds, b ∈ Fp q) → (∀ q ∈ ds, ∃ R, g.rt q = some (some R)) →
      ∃ F' cs', Instr.fill (fun i => pl[i]?) cs.toArray (parts.map fun q => (q.1, a.eval q.2)) = some cs'.toArray ∧ Rz w (cx.Sh Fp) k m' F' (x' e) cs' ∧ F'.Nodup ∧ (∀ b ∈ F', ∃ q ∈ ds', b ∈ Fp q) ∧ ∀ q ∈ ds', ∃ R, g.rt q = some (some R)
  | [], m, x, ds, m', x', ds', h, hop, F, cs, hz, hn, hF, hds => by
    obtain ⟨rfl, h'⟩ := Prod.mk.inj (Option.some.inj h)
    obtain ⟨rfl, rfl⟩ := Prod.mk.inj h'
    exact ⟨F, cs, rfl, hz, hn, hF, hds⟩
  | (i, y) :: ps, m, x, ds, m', x', ds', h, hop, F, cs, hz, hn, hF, hds => by
    simp only [c_bparts] at h
    split at h <;> try (cases h; done)
    rename_i L off hL hoff
    split at h <;> try (cases h; done)
    rename_i hpl
    have hop' : ∀ q ∈ ps, _ := fun q hq => hop q (List.mem_cons_of_mem _ hq)
    obtain ⟨hy1, hy2⟩ := hop (i, y) (List.mem_cons_self ..)
    split at h <;> try (cases h; done)
    · rename_i k' z hy
      split at h
      rotate_left
      · split at h <;> try (cases h; done)
        rename_i f mr hf hms
        obtain ⟨hk1, rfl⟩ := toFnv_spec hf
        obtain ⟨cs0, c1, c2⟩ := hy1 _ hy
        have hv := fn_unit_val c1 c2
        have aux : ∀ {K : Kt}, K = .fnv → Rz w (cx.Sh Fp) K .sh [] (fnvD K f) (a.eval y).cells.toList := by
          rintro K rfl
          exact ⟨rfl, .inr ⟨by simp, by rw [hv]; rfl⟩⟩
        obtain ⟨F', cs', g1, g2, g3, g4⟩ := bput (e := e) hp hL hoff hms hpl hz hn List.nodup_nil (by simp) (aux hk1) (ps.map fun q => (q.1, a.eval q.2))
        obtain ⟨F2, cs2, k1, k2, k3, k4, k5⟩ := bparts_ok hp h1 ps mr _ ds m' x' ds' h hop' F' cs' g2 g3 (fun b hb => hF b ((g4 b hb).resolve_right (by simp))) hds
        exact ⟨F2, cs2, by rw [List.map_cons, g1]; exact k1, k2, k3, k4, k5⟩
      rename_i hk
      split at h <;> try (cases h; done)
      rename_i mr hms
      subst hk
      have hv := (esat_cells (hy1 _ hy)).1
      obtain ⟨F', cs', g1, g2, g3, g4⟩ := bput (e := e) hp hL hoff hms hpl hz hn List.nodup_nil (by simp) hv (ps.map fun q => (q.1, a.eval q.2))
      obtain ⟨F2, cs2, k1, k2, k3, k4, k5⟩ := bparts_ok hp h1 ps mr _ ds m' x' ds' h hop' F' cs' g2 g3 (fun b hb => hF b ((g4 b hb).resolve_right (by simp))) hds
      exact ⟨F2, cs2, by rw [List.map_cons, g1]; exact k1, k2, k3, k4, k5⟩
    · rename_i q hy
      split at h <;> try (cases h; done)
      rename_i hnc
      split at h <;> try (cases h; done)
      rename_i Rq hRq
      split at h <;> try (cases h; done)
      rename_i hk
      split at h <;> try (cases h; done)
      rename_i mr hms
      obtain ⟨Rk, Rm, Rhv, Rx⟩ := Rq
      have hk : Rk = L.k' := hk
      subst hk
      have hrt := (hy2 _ q hy (List.mem_singleton_self _)).trans (Lst.root_gr h1 hRq)
      obtain ⟨R0, e1, e2⟩ := hy1 _ hy
      rw [hrt] at e1
      obtain rfl := Option.some.inj e1
      have e2 : a.eval y = V q := e2 (by simp)
      obtain ⟨cq, z1, z2⟩ := hp.mem.roots q _ hrt
      have hcq := own_cells (rt := g.rt) (V := V) z1 z2
      rw [← hcq, ← e2] at z2
      have hqF : ∀ b ∈ Fp q, b ∉ F := fun b hb hb' => by
        obtain ⟨q', h3, h4⟩ := hF b hb'
        refine hp.mem.disj q q' (fun e => ?_) b hb h4
        subst e
        exact hnc (by simpa using h3)
      obtain ⟨F', cs', g1, g2, g3, g4⟩ := bput (e := e) hp hL hoff hms hpl hz hn (hp.mem.nodup q) hqF z2 (ps.map fun q => (q.1, a.eval q.2))
      obtain ⟨F2, cs2, k1, k2, k3, k4, k5⟩ := bparts_ok hp h1 ps mr _ (q :: ds) m' x' ds' h hop' F' cs' g2 g3 (fun b hb => by
        rcases g4 b hb with hb | hb
        · obtain ⟨q', h3, h4⟩ := hF b hb; exact ⟨q', List.mem_cons_of_mem _ h3, h4⟩
        · exact ⟨q, List.mem_cons_self .., hb⟩) (fun q' hq' => by
        rcases List.mem_cons.1 hq' with rfl | hq'
        · exact ⟨_, hrt⟩
        · exact hds q' hq')
      exact ⟨F2, cs2, by rw [List.map_cons, g1]; exact k1, k2, k3, k4, k5⟩
    · rename_i hy
      split at h <;> try (cases h; done)
      rename_i T el m1 get put ok hL'
      split at h <;> try (cases h; done)
      rename_i mr hms
      have hv : a.eval y = .slice none 0 0 := hy1 _ hy
      obtain ⟨F', cs', g1, g2, g3, g4⟩ := bput (e := e) hp hL hoff hms hpl hz hn List.nodup_nil (by simp) (y := []) (v := a.eval y) (by rw [hv]; exact .inl ⟨rfl, rfl, rfl⟩) (ps.map fun q => (q.1, a.eval q.2))
      obtain ⟨F2, cs2, k1, k2, k3, k4, k5⟩ := bparts_ok hp h1 ps mr _ ds m' x' ds' h hop' F' cs' g2 g3 (fun b hb => hF b ((g4 b hb).resolve_right (by simp))) hds
      exact ⟨F2, cs2, by rw [List.map_cons, g1]; exact k1, k2, k3, k4, k5⟩
    · rename_i hy
      split at h <;> try (cases h; done)
      rename_i T el m1 get put ok hL'
      split at h <;> try (cases h; done)
      rename_i mr hms
      have hv : a.eval y = .nilIface := hy1 _ hy
      obtain ⟨F', cs', g1, g2, g3, g4⟩ := bput (e := e) hp hL hoff hms hpl hz hn List.nodup_nil (by simp) (y := none) (v := a.eval y) (by rw [hv]; exact .inr ⟨by simp, .inl ⟨rfl, rfl, rfl⟩⟩) (ps.map fun q => (q.1, a.eval q.2))
      obtain ⟨F2, cs2, k1, k2, k3, k4, k5⟩ := bparts_ok hp h1 ps mr _ ds m' x' ds' h hop' F' cs' g2 g3 (fun b hb => hF b ((g4 b hb).resolve_right (by simp))) hds
      exact ⟨F2, cs2, by rw [List.map_cons, g1]; exact k1, k2, k3, k4, k5⟩

theorem map_deadL {e : E} : ∀ (ds : List Nat), (ds.map fun q => (⟨q, none, V q, []⟩ : NR)).map (fun x => (x.r, x.R)) = (deadL (E := E) ds).map (fun q => (q.1, q.2.map (Root.ev e)))
  | [] => rfl
  | d :: ds => by
    have := map_deadL (e := e) ds
    simp only [deadL, List.map_cons] at this ⊢
    rw [this]; rfl

theorem snd_build {t : TypeId} {k : Kt} {parts : Array (Nat × Operand)} {r : OR E} (ho : o.op = .build t parts) (h : c_build P s gs t k parts = some r) : Snd P o s gs r := by
  unfold c_build at h
  split at h <;> try (cases h; done)
  rename_i hck
  simp only [Bool.and_eq_true] at hck
  obtain ⟨⟨hagg, hzo⟩, _⟩ := hck
  split at h <;> try (cases h; done)
  rename_i pl hpl
  split at h <;> try (cases h; done)
  rename_i m x ds hb
  intro cx e g a w V Fp Q h1 hok hA hd hp
  obtain ⟨i, z, zc, q1, q2, q3, q4⟩ := zeroOk_spec hzo
  have hops : ∀ q ∈ parts.toList, q.2 ∈ o.op.operands := fun q hq => by
    simp only [ho, Op.operands]
    simpa using ⟨q.1, by simpa using hq⟩
  obtain ⟨F, cs, k1, k2, k3, k4, k5⟩ := bparts_ok hp h1 parts.toList (zm k) (fun _ => k.dflt) [] m x ds hb
    (fun q hq => ⟨fun en hen => Lst.op_esat hp hA h1 (hops q hq) hen, fun en r hen hr => Lst.op_root hA (hops q hq) hen hr⟩) [] zc (Rz_zero _ _ _ _ q3) List.nodup_nil (by simp) (by simp)
  have hrun : (Instr.build t (parts.map fun (i, x) => (i, a.eval x))).run P w = .ok (.agg cs.toArray) w := by
    refine run_build w t _ _ ?_
    unfold placesOf at hpl
    split at hpl <;> try (cases hpl; done)
    rename_i fs hfs
    unfold Program.built
    simp only [q1, hfs, q2, hpl]
    have : (parts.map fun (i, x) => (i, a.eval x)).toList = parts.toList.map fun q => (q.1, a.eval q.2) := by simp
    rw [this, q4]
    simpa using k1
  have hsh : Shows k (.agg cs.toArray) cs := by unfold Shows; rw [if_pos hagg]
  have hdead : ∀ q ∈ ds, q ≠ s.nx ∨ r.n = 0 := fun q hq => by
    by_cases hn : r.n = 0
    · exact .inr hn
    · refine .inl fun e => ?_
      obtain ⟨R, hR⟩ := k5 q hq
      have := hA.new 0 (by omega)
      rw [Nat.add_zero, ← e, hR] at this
      cases this
  refine wp_val (v := .agg cs.toArray) (w' := w) (by simp only [execOp, ho]; simp [hrun]) ?_
  split at h
  · rename_i hfree
    obtain rfl := Option.some.inj h
    rw [← rtA_rtU (map_deadL (V := V) (e := e) ds)]
    refine hp.many (ds.map fun q => ⟨q, none, V q, []⟩) (F := []) ⟨rfl, rfl, rfl, Nat.le_refl _, fun _ _ _ => rfl⟩ (by simp) (fun y hy b hb => ?_) ?_ (fun y hy _ => ?_) (fun y hy R hR => ?_) (fun y hy _ _ => ?_) hd fun j en hj hK => ?_
    · obtain ⟨q, _, rfl⟩ := List.mem_map.1 hy; cases hb
    · have : ∀ ds : List Nat, (ds.map fun q => (⟨q, none, V q, []⟩ : NR)).flatMap (·.F) = [] := fun ds => by induction ds with | nil => rfl | cons d ds ih => simp [List.map_cons, List.flatMap_cons, ih]
      rw [this]; exact List.nodup_nil
    · obtain ⟨q, _, rfl⟩ := List.mem_map.1 hy; rfl
    · obtain ⟨q, _, rfl⟩ := List.mem_map.1 hy; cases hR
    · obtain ⟨q, hq, rfl⟩ := List.mem_map.1 hy
      obtain ⟨R, hR⟩ := k5 q hq
      show RKeep _ _ _ _ _ _ q (g.rt q) _
      rw [hR]; exact .inl rfl
    · simp only [evs, look] at hj
      split at hj
      · rename_i hj0
        subst hj0
        obtain rfl := Option.some.inj hj
        exact ⟨_, rfl, cs, hsh, Rz_keep hK _ _ _ _ _ (by simp) (Rz_free _ _ _ _ _ hfree k2).2⟩
      · cases hj
  · obtain rfl := Option.some.inj h
    have hne : ∀ q ∈ ds, q ≠ s.nx := fun q hq => (hdead q hq).resolve_right (by simp)
    have hlk : lookR ((⟨s.nx, some ⟨k, m, 0, x e⟩, .agg cs.toArray, F⟩ : NR) :: ds.map fun q => ⟨q, none, V q, []⟩) s.nx = some ⟨s.nx, some ⟨k, m, 0, x e⟩, .agg cs.toArray, F⟩ := by simp [lookR]
    have hmap : ((⟨s.nx, some ⟨k, m, 0, x e⟩, .agg cs.toArray, F⟩ : NR) :: ds.map fun q => ⟨q, none, V q, []⟩).map (fun x => (x.r, x.R)) = ((s.nx, some ⟨k, m, 0, x⟩) :: deadL (E := E) ds).map (fun q => (q.1, q.2.map (Root.ev e))) := by
      rw [List.map_cons, List.map_cons, map_deadL (V := V) (e := e) ds]; rfl
    rw [← rtA_rtU hmap]
    refine hp.many _ (F := []) ⟨rfl, rfl, rfl, Nat.le_refl _, fun _ _ _ => rfl⟩ (by simp) (fun y hy b hb => ?_) ?_ (fun y hy hy' => ?_) (fun y hy R hR hK => ?_) (fun y hy _ _ => ?_) hd fun j en hj hK => ?_
    · rcases List.mem_cons.1 hy with rfl | hy
      · obtain ⟨q, h3, h4⟩ := k4 b hb
        exact .inr ⟨_, List.mem_cons_of_mem _ (List.mem_map.2 ⟨q, h3, rfl⟩), h4⟩
      · obtain ⟨q, _, rfl⟩ := List.mem_map.1 hy; cases hb
    · have : ∀ ds : List Nat, (ds.map fun q => (⟨q, none, V q, []⟩ : NR)).flatMap (·.F) = [] := fun ds => by induction ds with | nil => rfl | cons d ds ih => simp [List.map_cons, List.flatMap_cons, ih]
      rw [List.flatMap_cons, this, List.append_nil]; exact k3
    · rcases List.mem_cons.1 hy with rfl | hy
      · cases hy'
      · obtain ⟨q, _, rfl⟩ := List.mem_map.1 hy; rfl
    · rcases List.mem_cons.1 hy with rfl | hy
      · obtain rfl := Option.some.inj hR
        exact ⟨cs, hsh, Rz_keep hK _ _ _ _ _ (fun _ _ => rfl) k2⟩
      · obtain ⟨q, _, rfl⟩ := List.mem_map.1 hy; cases hR
    · rcases List.mem_cons.1 hy with rfl | hy
      · have := hA.new 0 (by simp)
        rw [Nat.add_zero] at this
        show RKeep _ _ _ _ _ _ s.nx (g.rt s.nx) _
        rw [this]; trivial
      · obtain ⟨q, hq, rfl⟩ := List.mem_map.1 hy
        obtain ⟨R, hR⟩ := k5 q hq
        show RKeep _ _ _ _ _ _ q (g.rt q) _
        rw [hR]; exact .inl rfl
    · simp only [evs, look] at hj
      split at hj
      · rename_i hj0
        subst hj0
        obtain rfl := Option.some.inj hj
        refine ⟨_, rfl, some ⟨k, m, 0, x e⟩, ?_, fun _ => ?_⟩
        · simp only [rtA, hlk]
        · simp only [vA, hlk]
      · cases hj
end
end Go.Lift

namespace Go.Lift
set_option linter.unusedVariables false
set_option linter.unusedSimpArgs false

section
variable {E : Type} {P : Program} {o : Oper} {s : Lst E} {gs : Gs}

/-! ### A tuple is moved: its parts are -/
def tupEs (s : Lst E) (gs : Gs) (t : Tmp) : List (Nat × Ent E) := s.tm.filterMap fun q => if q.1.1 = t then (s.at gs q.1).map fun x => (q.1.2, x) else none
def c_moveT (s : Lst E) (gs : Gs) (x : Operand) : Option (OR E) := match x with
  | .tmp t => if (s.at gs (t, 0)).isNone && !(tupEs s gs t).isEmpty then some ⟨none, tupEs s gs t, [], 0⟩ else none
  | _ => none

theorem snd_moveT {x : Operand} {r : OR E} (ho : o.op = .move x ∨ o.op = .assign x) (h : c_moveT s gs x = some r) : Snd P o s gs r := by
  unfold c_moveT at h
  split at h <;> try (cases h; done)
  rename_i t
  split at h <;> try (cases h; done)
  obtain rfl := Option.some.inj h
  intro cx e g a w V Fp Q h1 hok hA hd hp
  have hrun : (execOp a.eval o).run P w = .ok (.value (a.eval (.tmp t))) w := by rcases ho with ho | ho <;> simp [execOp, ho]
  have hmem : t ∈ opTmps o := mem_opTmps (x := .tmp t) (by rcases ho with ho | ho <;> simp [ho, Op.operands]) rfl
  refine wp_val hrun ?_
  rw [rtU_nil]
  refine hp.pureN hd fun i en hi => ?_
  obtain ⟨ent, h2, rfl⟩ := Option.map_eq_some_iff.1 hi
  have h3 := look_mem h2
  obtain ⟨q, h4, h5⟩ := List.mem_filterMap.1 h3
  split at h5 <;> try (cases h5; done)
  rename_i hq
  obtain ⟨x, h6, h7⟩ := Option.map_eq_some_iff.1 h5
  obtain ⟨rfl, rfl⟩ := Prod.mk.inj h7
  obtain ⟨⟨t', i'⟩, sl⟩ := q
  have hq : t' = t := hq
  subst hq
  have h8 := Lst.at_gr h6 h1
  rw [← hA.tm t' hmem i'] at h8
  obtain ⟨v, u, g1, g2, g3⟩ := hp.ents _ _ _ h8
  have : a.eval (.tmp t') = v := by simp [Act.eval, g1]
  rw [this]
  exact ⟨u, g2, g3⟩

/-! ### A slice of bytes is converted to its own type: its row is marked, and no one's own from then on -/
def c_convB (P : Program) (s : Lst E) (gs : Gs) (src dst : TypeId) (x : Operand) : Option (OR E) := match s.op gs x with
  | some (.own r) => match s.root gs r with
    | some ⟨.sl T (.int .u8), .ow m, _, xs⟩ => match P.underlying src with
      | some (.slice T') => match P.underlying T' with
        | some (.int .u8) => if src = dst ∧ m.free = true then some ⟨some fun e => !(xs e).isEmpty, [(0, .val (.sl T (.int .u8)) xs)], [(r, none)], 0⟩ else none
        | _ => none
      | _ => none
    | _ => none
  | _ => none

theorem frozen_at {w : World} {g T : Nat} {C : Array Value} (h : w.heap[g]? = some (.cells C T (0, 0))) (k : Nat) : (w.freeze ⟨g, k, none⟩ 1).heap[g]? = some (.cells C T (k, k + 1)) := by
  unfold World.freeze
  rw [if_neg (by decide)]
  show (w.heap.modify g _)[g]? = _
  rw [Array.getElem?_modify, if_pos rfl, h]
  rfl
theorem frozen_other {w : World} {g k b : Nat} (h : b ≠ g) : (w.freeze ⟨g, k, none⟩ 1).heap[b]? = w.heap[b]? := by
  unfold World.freeze
  rw [if_neg (by decide)]
  show (w.heap.modify g _)[b]? = _
  rw [Array.getElem?_modify, if_neg (fun e => h e.symm)]

theorem snd_convB {src dst : TypeId} {x : Operand} {r : OR E} (ho : o.op = .convert src dst x) (h : c_convB P s gs src dst x = some r) : Snd P o s gs r := by
  unfold c_convB at h
  have mx : x ∈ o.op.operands := by simp [ho, Op.operands]
  split at h <;> try (cases h; done)
  rename_i r0 hx
  split at h <;> try (cases h; done)
  rename_i T m hv xs hR
  split at h <;> try (cases h; done)
  rename_i T' hs
  split at h <;> try (cases h; done)
  rename_i hT
  split at h <;> try (cases h; done)
  rename_i hc
  obtain ⟨rfl, hm⟩ := hc
  obtain rfl := Option.some.inj h
  intro cx e g a w V Fp Q h1 hok hA hd hp
  have hok : (!(xs e).isEmpty) = true := hok
  have hrt : g.rt r0 = _ := (Lst.op_root hA mx hx (List.mem_singleton_self _)).trans (Lst.root_gr h1 hR)
  obtain ⟨R0, h3, h4⟩ := Lst.op_esat hp hA h1 mx hx
  rw [hrt] at h3
  obtain rfl := Option.some.inj h3
  have hvv := h4 (by simp)
  obtain ⟨cs, z1, z2⟩ := hp.mem.roots r0 _ hrt
  simp [Shows, Kt.isAgg, Root.ev] at z1
  subst z1
  rcases z2 with ⟨z3, z4, z5⟩ | ⟨b, cap, C, Fe, z3, z4, z5, z6, z7, z8⟩
  · have z4 : xs e = [] := z4
    rw [z4] at hok; cases hok
  have z3 : V r0 = .slice (some ⟨b, 0, none⟩) (xs e).length cap := (List.cons.inj z3).1
  have hbr : b ∈ Fp r0 := by rw [z4]; exact List.mem_cons_self ..
  have hsh : w.shape? b = some (T, C.size) := by simp [World.shape?, z5]
  have hrun : (convert src src (a.eval x)).run P w = .ok (a.eval x) (w.freeze ⟨b, C.size, none⟩ 1) := by
    rw [hvv, z3]
    simp [convert, run_underlying hs, run_underlying hT, markStringish, hsh]
  refine wp_val (v := a.eval x) (w' := w.freeze ⟨b, C.size, none⟩ 1) (by simp [execOp, ho, hrun]) ?_
  rw [evs_one, rtU_cons, rtU_nil]
  refine GSat.step (w' := w.freeze ⟨b, C.size, none⟩ 1) (V' := V) (Fp' := upd Fp r0 []) (A := fun q => q = r0) hp.defers hp.size hp.mem hp.ents
    ⟨by unfold World.freeze; rw [if_neg (by decide)], by unfold World.freeze; rw [if_neg (by decide)], by unfold World.freeze; rw [if_neg (by decide)], by unfold World.freeze; rw [if_neg (by decide)]; simp, fun b' _ hs' => frozen_other fun e => hs' r0 rfl (e ▸ hbr), fun q hq => ?_, fun q hq b' hb' => ?_, fun q hq => ?_, fun q q' hq hq' hne => absurd (hq.trans hq'.symm) hne, fun q hq _ => ?_, fun q R hq hR => ?_, fun q hq => ?_⟩ hd fun i en hi => ?_
  · rw [upd_ne _ _ hq, upd_ne _ _ hq]; exact ⟨rfl, rfl, rfl⟩
  · subst hq; rw [upd_same] at hb'; cases hb'
  · subst hq; rw [upd_same]; exact List.nodup_nil
  · subst hq; rw [upd_same]
  · subst hq; rw [upd_same] at hR; cases hR
  · subst hq; rw [upd_same, hrt]; exact .inl rfl
  · unfold one at hi
    split at hi <;> try (cases hi; done)
    rename_i hi0
    subst hi0
    obtain rfl := Option.some.inj hi
    refine ⟨_, rfl, [a.eval x], rfl, ?_⟩
    rw [hvv, z3]
    refine ⟨rfl, .inr ⟨by simp, some ⟨b, 0, none⟩, cap, rfl, z7, .inr ⟨b, 0, C.toList.take ((xs e).length * 1), rfl, ⟨.inr ((hp.mem.own r0 b hbr)), fun q hq => ?_⟩, ?_, ?_, ?_⟩⟩⟩
    · by_cases hqr : q = r0
      · subst hqr; rw [upd_same] at hq; cases hq
      · rw [upd_ne _ _ hqr] at hq
        exact hp.mem.disj q r0 hqr b hq hbr
    · have := hp.mem.lt hbr
      unfold World.freeze; rw [if_neg (by decide)]
      simpa using this
    · have z8 : RzL _ Fe (xs e) (C.toList.take ((xs e).length * 1)) := z8
      refine (z8.free fun F' x c hr => ?_).2
      obtain ⟨q1, q2⟩ := Rz_free _ _ _ _ _ hm hr
      exact ⟨q1, q2.1, q2.2⟩
    · intro j v hj
      have hb' := frozen_at z5 C.size
      unfold World.cell?
      rw [Nat.zero_add]
      simp only [hb']
      rw [List.getElem?_take] at hj
      split at hj
      · simpa using hj
      · cases hj
def c_mv (s : Lst E) (gs : Gs) (x : Operand) : Option (OR E) := match s.op gs x with
  | some en => some (cVal en)
  | none => c_moveT s gs x
theorem snd_mv {x : Operand} {r : OR E} (ho : o.op = .move x ∨ o.op = .assign x) (h : c_mv s gs x = some r) : Snd P o s gs r := by
  unfold c_mv at h
  split at h
  · rename_i en hen
    obtain rfl := Option.some.inj h
    rcases ho with ho | ho
    · exact snd_move ho hen
    · exact snd_assign ho hen
  · exact snd_moveT ho h
/-- A move looks at no root. -/
theorem Lst.op_esat_tm {cx : Cx} {g : G} {a : Act} {w : World} {V : Nat → Value} {Fp : Nat → List Nat} {e : E} (h : Pre cx g a w V Fp) (hA : ∀ t ∈ opTmps o, ∀ i, g.tm (t, i) = (s.gr e).tm (t, i)) (ho : s.on gs e = true) {x : Operand} (hx : x ∈ o.op.operands) {en : Ent E} (hen : s.op gs x = some en) : ESat cx g.rt V Fp w (en.ev e) (a.eval x) := by
  unfold Lst.op at hen
  split at hen
  · rename_i t
    have h1 := Lst.at_gr hen ho
    rw [← hA t (mem_opTmps hx rfl) 0] at h1
    obtain ⟨v, u, h2, h3, h4⟩ := h.ents t 0 _ h1
    obtain rfl := Option.some.inj h3
    have : a.eval (.tmp t) = v := by simp [Act.eval, h2]
    rw [this]
    exact h4
  · obtain rfl := Option.some.inj hen; exact esat_int _ _
  · obtain rfl := Option.some.inj hen; exact esat_bool _
  · obtain rfl := Option.some.inj hen; exact esat_str _
  · obtain rfl := Option.some.inj hen; rfl
  · obtain rfl := Option.some.inj hen; exact ⟨[_], rfl, rfl, .inr ⟨by simp, [], [], rfl, ⟨rfl, rfl⟩, rfl, rfl⟩⟩
  · cases hen
def isMv (o : Oper) : Bool := match o.op with
  | .move _ => true
  | .assign _ => true
  | _ => false
theorem snd_mv_tm {x : Operand} {r : OR E} (ho : o.op = .move x ∨ o.op = .assign x) (h : c_mv s gs x = some r) {cx : Cx} {e : E} {g : G} {a : Act} {w : World} {V : Nat → Value} {Fp : Nat → List Nat} {Q : Exit → Act → World → Prop} (h1 : s.on gs e = true) (hA : ∀ t ∈ opTmps o, ∀ i, g.tm (t, i) = (s.gr e).tm (t, i))
    (hd : ∀ t, o.dst = some t → cx.T t) (hp : Pre cx g a w V Fp) : o.wp P a w (fun a' w' => GSat cx (g.put o.dst (evs r.es e) (rtU g.rt r.ru e)) a' w') Q := by
  unfold c_mv at h
  split at h
  · rename_i en hen
    obtain rfl := Option.some.inj h
    have hrun : (execOp a.eval o).run P w = .ok (.value (a.eval x)) w := by rcases ho with ho | ho <;> simp [execOp, ho]
    refine wp_val hrun ?_
    show GSat cx (g.put o.dst (evs [(0, en)] e) (rtU g.rt [] e)) _ _
    rw [evs_one, rtU_nil]
    exact hp.pure hd (Lst.op_esat_tm hp hA h1 (by rcases ho with ho | ho <;> simp [ho, Op.operands]) hen)
  · rename_i hnone
    clear hnone
    unfold c_moveT at h
    split at h <;> try (cases h; done)
    rename_i t
    split at h <;> try (cases h; done)
    obtain rfl := Option.some.inj h
    have hrun : (execOp a.eval o).run P w = .ok (.value (a.eval (.tmp t))) w := by rcases ho with ho | ho <;> simp [execOp, ho]
    have hmem : t ∈ opTmps o := mem_opTmps (x := .tmp t) (by rcases ho with ho | ho <;> simp [ho, Op.operands]) rfl
    refine wp_val hrun ?_
    rw [rtU_nil]
    refine hp.pureN hd fun i en hi => ?_
    obtain ⟨ent, h2, rfl⟩ := Option.map_eq_some_iff.1 hi
    have h3 := look_mem h2
    obtain ⟨q, h4, h5⟩ := List.mem_filterMap.1 h3
    split at h5 <;> try (cases h5; done)
    rename_i hq
    obtain ⟨x, h6, h7⟩ := Option.map_eq_some_iff.1 h5
    obtain ⟨rfl, rfl⟩ := Prod.mk.inj h7
    obtain ⟨⟨t', i'⟩, sl⟩ := q
    have hq : t' = t := hq
    subst hq
    have h8 := Lst.at_gr h6 h1
    rw [← hA t' hmem i'] at h8
    obtain ⟨v, u, g1, g2, g3⟩ := hp.ents _ _ _ h8
    have : a.eval (.tmp t') = v := by simp [Act.eval, g1]
    rw [this]
    exact ⟨u, g2, g3⟩
def c_conv (P : Program) (s : Lst E) (gs : Gs) (src dst : TypeId) (x : Operand) : Option (OR E) := match c_convert P s gs src dst x with
  | some r => some r
  | none => c_convB P s gs src dst x
theorem snd_conv {src dst : TypeId} {x : Operand} {r : OR E} (ho : o.op = .convert src dst x) (h : c_conv P s gs src dst x = some r) : Snd P o s gs r := by
  unfold c_conv at h
  split at h
  · rename_i q hq
    obtain rfl := Option.some.inj h
    exact snd_convert ho hq
  · exact snd_convB ho h
end
end Go.Lift

namespace Go.Lift
set_option linter.unusedVariables false
set_option linter.unusedSimpArgs false

section
variable {P : Program} {cx : Cx} {g : G} {a : Act} {w : World} {V : Nat → Value} {Fp : Nat → List Nat} {o : Oper} {Q : Exit → Act → World → Prop}

theorem adr_shal_head {w w' : World} {Sh : Nat → Prop} {k : Kt} {m : Mk} {F : List Nat} {x : k.T} {cs : List Value} {p : List (St Nat)} (hs : shal k p = true) (hv : vp k m p = true) (h : Rz w Sh k m F x cs)
    (hb : ∀ b Fe, F = b :: Fe → ∀ C T f, w.heap[b]? = some (.cells C T f) → ∃ C', w'.heap[b]? = some (.cells C' T f)) : adr w' k none cs p = adr w k none cs p := by
  cases p with
  | nil => cases k <;> simp [shal] at hs
  | cons s p =>
    cases k <;> cases s <;> try (simp [shal] at hs; done)
    case sl.ix T e i =>
      cases m <;> try (simp [vp] at hv; done)
      rcases h with ⟨_, _, rfl⟩ | ⟨g, cap, C, Fe, rfl, rfl, hh, _⟩
      · simp [adr]
      · obtain ⟨C', hh'⟩ := hb g _ rfl _ _ _ hh
        simp only [adr, hh, hh']
        rw [adr_flat _ _ _ _ _ hs, adr_flat _ _ _ _ _ hs]
    case ptr.ad T e =>
      cases m <;> try (simp [vp] at hv; done)
      obtain ⟨g, C, Fe, rfl, rfl, hh, _⟩ := h
      obtain ⟨C', hh'⟩ := hb g _ rfl _ _ _ hh
      simp only [adr, hh, hh']
      rw [adr_flat _ _ _ _ _ hs, adr_flat _ _ _ _ _ hs]
    case win.ix s i =>
      cases s <;> try (simp [shal] at hs; done)
      cases m <;> try (simp [vp] at hv; done)
      obtain ⟨_, A, n, cap', rfl, hn, hz⟩ := h.resolve_left fun h => by cases h.1
      rcases hz with ⟨_, _, hc⟩ | ⟨g, cap, C, Fe, hc, rfl, hh, _⟩
      · obtain ⟨rfl, _⟩ := Value.slice.inj (List.cons.inj hc).1
        simp [adr]
      · obtain ⟨rfl, _⟩ := Value.slice.inj (List.cons.inj hc).1
        obtain ⟨C', hh'⟩ := hb g _ rfl _ _ _ hh
        simp only [adr, hh, hh']
        rw [adr_flat _ _ _ _ _ hs, adr_flat _ _ _ _ _ hs]

theorem gok_lens' {E : Type} (e : E) {p : Path E} {k : Kt} {m : Mk} {L : Lens E k} (hL : lens k m p = some L) {x : k.T} (hok : L.ok e x = true) : gok k m x (p.at e) = true := by
  rw [← gok_lens e (lens_is _ _ _ _ hL)]; exact hok

/-- append: to a slice that lies in an owned place: it is taken out, and leaves a hole. -/
theorem op_append_sub (h : Pre cx g a w V Fp) {t t2 T : TypeId} {x y : Operand} (ho : o.op = .call { callee := .builtin .append, args := #[x, y], argTypes := #[t, t2] }) {r r' : Nat} {R : GRoot} {E : Type} (e : E) {p : Path E} {el : Kt} {m mr : Mk} {get : E → R.k.T → (Kt.sl T el).T} {put : E → R.k.T → (Kt.sl T el).T → R.k.T} {ok : E → R.k.T → Bool}
    (hx : ESat cx g.rt V Fp w (.sub r R.hv (p.at e)) (a.eval x)) (hr : g.rt r = some (some R)) (how : ∃ m1, R.m = .ow m1) (hL : lens R.k R.m p = some ⟨.sl T el, .ow m, get, put, ok⟩) (hok : ok e R.x = true) (hms : mset R.k R.m p.sh .ho = some mr) (hm : m.free = true) {bytes : Nat} {ys : List el.T}
    (hy : AppSrc P cx Fp w el t2 (a.eval y) ys) (ht : appOk P t T el bytes = true) (hfit : appFits (List.length (get e R.x)) ys.length bytes = true) (hr' : g.rt r' = none) (hd : ∀ t, o.dst = some t → cx.T t) :
    o.wp P a w (fun a' w' => GSat cx (g.put o.dst (one (.own r')) (upd (upd g.rt r (some (some ⟨R.k, mr, R.hv + 1, put e R.x []⟩))) r' (some (some ⟨.sl T el, .ow m, 0, (get e R.x : List el.T) ++ ys⟩)))) a' w') Q := by
  obtain ⟨R0, q1, q2⟩ := hx
  rw [hr] at q1
  obtain rfl := Option.some.inj q1
  obtain ⟨b, o', hbF, hadr, hcell⟩ := (q2 R rfl).2 rfl (gok_lens' e hL hok)
  obtain ⟨Fa, Fo, Fb, c, hF, hc, H⟩ := h.hole hr e hL hok
  rcases H with ⟨c1, c2, k1, k2, _⟩ | ⟨b', c1, c2, T', hb, k2, k3, k4⟩
  · rw [k2 none] at hadr; cases hadr
  have := k2 none
  rw [hadr] at this
  obtain ⟨rfl, rfl⟩ := Prod.mk.inj (Option.some.inj this)
  clear this
  have hlc := Rz_len _ _ _ _ _ _ _ hc
  obtain ⟨v0, rfl⟩ : ∃ v0, c = [v0] := by
    match c, hlc with
    | [v0], _ => exact ⟨v0, rfl⟩
  have hv0 : a.eval x = v0 := by
    rw [cell_of_block k3] at hcell
    simpa using hcell.symm
  obtain ⟨hu, i, z, hi, hs, hby, hz, hzs⟩ := appOk_spec ht
  obtain ⟨news, hsrc, hnews⟩ := hy
  simp only [appFits, Bool.and_eq_true, decide_eq_true_eq] at hfit
  have hnd : (Fa ++ (Fo ++ Fb)).Nodup := hF ▸ h.mem.nodup r
  have n1 := List.nodup_append.1 hnd
  have n2 := List.nodup_append.1 n1.2.1
  obtain ⟨v', w', F', hrun, e1, e2, e3, e4, e5, e6, e7, e8⟩ := run_append (ty := o.type) hu hi hs hz hzs hc n2.1 hsrc (hnews.imp fun F' x c hF hr => by
    have h0 : F' = [] := nil_of_sub rfl hF
    subst h0
    exact Rz_unfree _ _ _ _ hm hr) (by simpa using n2.1) (by rw [hby]; exact hfit.1) hfit.2
  have hFr : Fp r' = [] := h.mem.none r' (by rw [hr']; simp)
  have hne : r ≠ r' := fun e => by rw [e, hr'] at hr; cases hr
  obtain ⟨csr, hsr, hzr⟩ := h.mem.roots r R hr
  have hFo : ∀ u ∈ Fo, u ∈ Fp r := fun u hu => by rw [hF]; simp [hu]
  have hlt : ∀ u ∈ Fp r, u < w.heap.size := fun u hu => h.mem.lt hu
  have old : ∀ u ∈ Fa ++ Fb, w'.heap[u]? = w.heap[u]? := fun u hu => by
    refine e5 u (hlt u (by rw [hF]; rcases List.mem_append.1 hu with hu | hu <;> simp [hu])) fun hu' => ?_
    rcases List.mem_append.1 hu with hu | hu
    · exact n1.2.2 u hu u (List.mem_append_left _ hu') rfl
    · exact n2.2.2 u hu' u hu rfl
  have hF' : ∀ u ∈ F', u ∉ Fa ++ Fb := fun u hu hu' => by
    have hur : u ∈ Fp r := by rw [hF]; rcases List.mem_append.1 hu' with h | h <;> simp [h]
    rcases e6 u hu with h3 | h3 | h3
    · rcases List.mem_append.1 hu' with hu' | hu'
      · exact n1.2.2 u hu' u (List.mem_append_left _ h3) rfl
      · exact n2.2.2 u h3 u hu' rfl
    · cases h3
    · have := hlt u hur; omega
  have hrunop : (execOp a.eval o).run P w = .ok (.value v') w' := by
    simp only [execOp, ho, resolve, Sem.run_bind, invoke, builtin]
    simp [hv0, hrun]
  refine wp_val (v := v') (w' := w') hrunop ?_
  refine GSat.step (V' := upd V r' v') (Fp' := upd (upd Fp r (Fa ++ Fb)) r' F') (A := fun s => s = r ∨ s = r') h.defers h.size h.mem h.ents
    ⟨e1, e2, e3, e4, fun u hu hs => e5 u hu fun hu' => hs r (.inl rfl) (hFo u hu'), fun s hs => ?_, fun s hs u hu => ?_, fun s hs => ?_, fun s s' hs hs' hne' u hu hu' => ?_, fun s hs hn => ?_, fun s R' hs hR hK => ?_, fun s hs => ?_⟩ hd fun i ent hi => ?_
  · have h1 : s ≠ r := fun e => hs (.inl e)
    have h2 : s ≠ r' := fun e => hs (.inr e)
    exact ⟨by rw [upd_ne _ _ h2, upd_ne _ _ h1], upd_ne _ _ h2, by rw [upd_ne _ _ h2, upd_ne _ _ h1]⟩
  · rcases hs with rfl | rfl
    · rw [upd_ne _ _ hne, upd_same] at hu
      refine .inr ⟨s, .inl rfl, ?_⟩
      rw [hF]; rcases List.mem_append.1 hu with hu | hu <;> simp [hu]
    · rw [upd_same] at hu
      rcases e6 u hu with h3 | h3 | h3
      · exact .inr ⟨r, .inl rfl, hFo u h3⟩
      · cases h3
      · exact .inl h3
  · rcases hs with rfl | rfl
    · rw [upd_ne _ _ hne, upd_same]
      exact List.nodup_append.2 ⟨n1.1, n2.2.1, fun u hu v hv e => n1.2.2 u hu v (List.mem_append_right _ hv) e⟩
    · rw [upd_same]; exact e7
  · rcases hs with rfl | rfl
    · rcases hs' with rfl | rfl
      · exact hne' rfl
      · rw [upd_ne _ _ hne, upd_same] at hu
        rw [upd_same] at hu'
        exact hF' u hu' hu
    · rcases hs' with rfl | rfl
      · rw [upd_same] at hu
        rw [upd_ne _ _ hne, upd_same] at hu'
        exact hF' u hu hu'
      · exact hne' rfl
  · rcases hs with rfl | rfl
    · rw [upd_ne _ _ hne, upd_same] at hn; exact absurd rfl (hn _)
    · rw [upd_same] at hn; exact absurd rfl (hn _)
  · rcases hs with rfl | rfl
    · rw [upd_ne _ _ hne, upd_same] at hR
      obtain rfl := Option.some.inj (Option.some.inj hR)
      refine ⟨csr, by rw [upd_ne _ _ hne]; exact hsr, ?_⟩
      rw [upd_ne _ _ hne, upd_same, ← shows_hdr hsr]
      have hzn : Rz w' (cx.Sh (upd (upd Fp s (Fa ++ Fb)) r' F')) (.sl T el) .ho [] ([] : List el.T) [v0] := ⟨rfl, .inl ⟨rfl, by
        have := Rz_one _ _ _ _ _ _ _ hc v0 (List.mem_singleton_self _)
        exact ⟨rfl, fun u hu => by rw [List.mem_singleton.1 hu]; exact this⟩⟩⟩
      have hb2 : w'.heap[b]? = some (.cells (c1 ++ ([v0] ++ c2)).toArray T' (0, 0)) := (old b (List.mem_append_left _ hb)).trans k3
      simpa using (k4 w' _ .ho mr [] ([] : List el.T) [v0] hK (fun u hu _ => old u hu) hb2 (mset_spec e p _ _ _ _ hms) hzn).1
    · rw [upd_same] at hR
      obtain rfl := Option.some.inj (Option.some.inj hR)
      exact ⟨[v'], by rw [upd_same]; simp [Shows, Kt.isAgg], by rw [upd_same]; exact e8 _ hK (by simp)⟩
  · rcases hs with rfl | rfl
    · rw [hr, upd_ne _ _ hne, upd_same]
      refine .inr ⟨mr, _, _, rfl, upd_ne _ _ hne, .inr ⟨Nat.lt_succ_self _, fun _ _ => how, fun p' hp' => ?_⟩⟩
      rw [shows_hdr hsr]
      obtain ⟨m1, hm1⟩ := how
      refine adr_shal_head hp' (by rw [hm1]; exact shal_vp hp') hzr fun u Fe hu C T2 f hh => ⟨C, (old u ?_).trans hh⟩
      match Fa, hb with
      | b0 :: Fa', hb =>
        rw [hF] at hu
        have : u = b0 := (List.cons.inj hu).1.symm
        rw [this]; simp
    · rw [hr']; trivial
  · unfold one at hi
    split at hi
    · rename_i h0; subst h0
      obtain rfl := Option.some.inj hi
      exact ⟨v', rfl, _, upd_same _ _ _, fun _ => (upd_same _ _ _).symm⟩
    · cases hi
end

section
variable {E : Type} {P : Program} {o : Oper} {s : Lst E} {gs : Gs}
def c_appendS (P : Program) (s : Lst E) (gs : Gs) (t t2 : TypeId) (x y : Operand) : Option (OR E) := match s.op gs x with
  | some (.sub r hv p) => match s.root gs r with
    | some R => if R.hv = hv ∧ R.m.isOw = true then match hL : lens R.k R.m p with
      | some ⟨.sl T el, .ow m, get, put, ok⟩ => if m.free && appOk P t T el (bytesOf' P T) then
          match c_src P s gs t2 T el y, mset R.k R.m p.sh .ho with
          | some ys, some mr => some ⟨some fun e => ok e (R.x e) && appFits (List.length (get e (R.x e))) (ys e).length (bytesOf' P T), [(0, .own s.nx)], [(s.nx, some ⟨.sl T el, .ow m, 0, fun e => (get e (R.x e) : List el.T) ++ ys e⟩), (r, some ⟨R.k, mr, R.hv + 1, fun e => put e (R.x e) []⟩)], 1⟩
          | _, _ => none
        else none
      | _ => none
      else none
    | none => none
  | _ => none

theorem snd_appendS {t t2 : TypeId} {x y : Operand} {r : OR E} (ho : o.op = .call { callee := .builtin .append, args := #[x, y], argTypes := #[t, t2] }) (h : c_appendS P s gs t t2 x y = some r) : Snd P o s gs r := by
  unfold c_appendS at h
  have mx : x ∈ o.op.operands := by simp [ho, Op.operands, Call.operands]
  have my : y ∈ o.op.operands := by simp [ho, Op.operands, Call.operands]
  split at h <;> try (cases h; done)
  rename_i r0 hv p hx
  split at h <;> try (cases h; done)
  rename_i R hR
  split at h <;> try (cases h; done)
  rename_i hc
  obtain ⟨rfl, how⟩ := hc
  split at h <;> try (cases h; done)
  rename_i T el m get put ok hL
  split at h <;> try (cases h; done)
  rename_i hc
  rw [Bool.and_eq_true] at hc
  split at h <;> try (cases h; done)
  rename_i ys mr hys hms
  obtain rfl := Option.some.inj h
  intro cx e g a w V Fp Q h1 hok hA hd hp
  have hok : (ok e (R.x e) && appFits (List.length (get e (R.x e))) (ys e).length (bytesOf' P T)) = true := hok
  rw [Bool.and_eq_true] at hok
  rw [evs_one, rtU_cons, rtU_cons, rtU_nil]
  have hrt : g.rt r0 = some (some (R.ev e)) := (Lst.op_root hA mx hx (List.mem_singleton_self _)).trans (Lst.root_gr h1 hR)
  have how' : ∃ m1, (R.ev e).m = .ow m1 := by
    show ∃ m1, R.m = .ow m1
    cases hm : R.m <;> rw [hm] at how <;> first | exact ⟨_, rfl⟩ | cases how
  exact op_append_sub (R := R.ev e) hp ho e (Lst.op_esat hp hA h1 mx hx) hrt how' hL hok.1 hms hc.1 (c_src_spec hys hp hA h1 my) hc.2 hok.2 (by have := hA.new 0 (by simp); simpa using this) hd

def c_app (P : Program) (s : Lst E) (gs : Gs) (t t2 : TypeId) (x y : Operand) (kn : Option (TypeId × Kt)) : Option (OR E) := match c_append P s gs t t2 x y kn with
  | some r => some r
  | none => c_appendS P s gs t t2 x y
theorem snd_app {t t2 : TypeId} {x y : Operand} {kn : Option (TypeId × Kt)} {r : OR E} (ho : o.op = .call { callee := .builtin .append, args := #[x, y], argTypes := #[t, t2] }) (h : c_app P s gs t t2 x y kn = some r) : Snd P o s gs r := by
  unfold c_app at h
  split at h
  · rename_i q hq
    obtain rfl := Option.some.inj h
    exact snd_append ho hq
  · exact snd_appendS ho h
end
end Go.Lift

namespace Go.Lift
set_option linter.unusedVariables false
set_option linter.unusedSimpArgs false

section
variable {P : Program} {cx : Cx} {g : G} {a : Act} {w : World} {V : Nat → Value} {Fp : Nat → List Nat} {o : Oper} {Q : Exit → Act → World → Prop}

def slElem (P : Program) (t : TypeId) (T : TypeId) : Bool := match P.underlying t with
  | some (.slice e) => e == T
  | _ => false
theorem slElem_spec {P : Program} {t T : TypeId} (h : slElem P t T = true) : P.underlying t = some (.slice T) := by
  unfold slElem at h
  split at h <;> try (cases h; done)
  rename_i e he
  rw [he, show e = T by simpa using h]
/-- Nothing within may be given up. -/
def Kt.fixed : Kt → Bool
  | .bld _ _ => true
  | .map _ _ => true
  | .ifc _ _ => true
  | .win _ => true
  | .opt _ _ => true
  | k => k.isAgg
/-- The inner parts of an owned slice or variable are given up. -/
theorem Rz_relax {w : World} {Sh Sh' : Nat → Prop} (hS : ∀ b, Sh b → b < w.heap.size → Sh' b) : ∀ (k : Kt) (m1 : Mk) (F : List Nat) (x : k.T) (cs : List Value), m1.whole = true → (k.fixed = false) → (∀ b ∈ F.drop 1, Sh' b) → Rz w Sh k (.ow m1) F x cs → Rz w Sh' k (.ow .sh) (F.take 1) x cs
  | .int _, m, F, x, cs, hm, hk, hF, h => ⟨by rw [h.1]; rfl, .inr ⟨by simp, (h.2.resolve_left fun h => by cases h.1).2⟩⟩
  | .bool, m, F, x, cs, hm, hk, hF, h => ⟨by rw [h.1]; rfl, .inr ⟨by simp, (h.2.resolve_left fun h => by cases h.1).2⟩⟩
  | .str, m, F, x, cs, hm, hk, hF, h => ⟨by rw [h.1]; rfl, .inr ⟨by simp, (h.2.resolve_left fun h => by cases h.1).2⟩⟩
  | .unit, m, F, x, cs, hm, hk, hF, h => by cases hk
  | .pair a b, m, F, x, cs, hm, hk, hF, h => by cases hk
  | .arr n e, m, F, xs, cs, hm, hk, hF, h => by cases hk
  | .sl T e, m, F, xs, cs, hm, hk, hF, h => by
    rcases h with ⟨rfl, h1, h2⟩ | ⟨g, cap, C, Fe, rfl, rfl, hh, hc, hl, hr⟩
    · exact .inl ⟨rfl, h1, h2⟩
    · exact .inr ⟨g, cap, C, [], rfl, rfl, hh, hc, hl, hr.imp_free fun F' x c hs hr => Rz_share hS e m _ _ _ hm (fun b hb => hF b (hs b hb)) hr⟩
  | .ptr T e, m, F, x, cs, hm, hk, hF, h => by
    obtain ⟨g, C, Fe, rfl, rfl, hh, hr⟩ := h
    exact ⟨g, C, [], rfl, rfl, hh, Rz_share hS e m _ _ _ hm (fun b hb => hF b hb) hr⟩
  | .unk, m, F, x, cs, hm, hk, hF, h => ⟨by rw [h.1]; rfl, h.2⟩
  | .bld T e, m, F, x, cs, hm, hk, hF, h => by cases hk
  | .map a b, m, F, x, cs, hm, hk, hF, h => by cases hk
  | .ifc t e, m, F, x, cs, hm, hk, hF, h => by cases hk
  | .win s, m, F, x, cs, hm, hk, hF, h => by cases hk
  | .opt b s, m, F, x, cs, hm, hk, hF, h => by cases hk
  | .fnv, m, F, x, cs, hm, hk, hF, h => ⟨by rw [h.1]; rfl, .inr ⟨by simp, (h.2.resolve_left fun h => by cases h.1).2⟩⟩
  | .fn f e, m, F, x, cs, hm, hk, hF, h => ⟨by rw [h.1]; rfl, .inr ⟨by simp, by
      obtain ⟨_, vs, cc, h1, h2, h3⟩ := h.2.resolve_left fun h => by cases h.1
      exact ⟨vs, cc, h1, h2, Rz_keep ⟨Nat.le_refl _, fun b hb hlt => ⟨rfl, hS b hb hlt⟩⟩ e _ _ _ _ (fun _ _ => rfl) h3⟩⟩⟩


/-- The same but for the form of what owns nothing. -/
def Mk.eqv : Mk → Mk → Bool
  | .ow a, .ow b => a.eqv b
  | .pr a b, .pr c d => a.eqv c && b.eqv d
  | .ho, .ho => true
  | m, m' => m.free && m'.free
theorem Mk.eqv_free : ∀ {m m' : Mk}, m.eqv m' = true → m.free = m'.free
  | .ow a, .ow b, h => rfl
  | .pr a b, .pr c d, h => by
    simp only [Mk.eqv, Bool.and_eq_true] at h
    simp only [Mk.free, eqv_free h.1, eqv_free h.2]
  | .ho, .ho, h => rfl
  | .sh, .sh, h => rfl
  | .sh, .pr _ _, h => by simp only [Mk.eqv, Bool.and_eq_true] at h; rw [h.1, h.2]
  | .pr _ _, .sh, h => by simp only [Mk.eqv, Bool.and_eq_true] at h; rw [h.1, h.2]
  | .sh, .ow _, h => by cases h
  | .sh, .ho, h => by cases h
  | .ow _, .sh, h => by cases h
  | .ow _, .pr _ _, h => by cases h
  | .ow _, .ho, h => by cases h
  | .pr _ _, .ow _, h => by simp [Mk.eqv, Mk.free] at h
  | .pr _ _, .ho, h => by simp [Mk.eqv, Mk.free] at h
  | .ho, .sh, h => by cases h
  | .ho, .ow _, h => by cases h
  | .ho, .pr _ _, h => by cases h
theorem Rz_eqv {w : World} {Sh : Nat → Prop} : ∀ (k : Kt) (m m' : Mk) (F : List Nat) (x : k.T) (cs : List Value), m.eqv m' = true → Rz w Sh k m F x cs → Rz w Sh k m' F x cs := by
  intro k m m' F x cs he h
  by_cases hf : m.free = true
  · obtain ⟨h1, h2⟩ := Rz_free _ _ _ _ _ hf h
    subst h1
    exact Rz_unfree _ _ _ _ (by rw [← Mk.eqv_free he]; exact hf) h2
  · cases m with
    | sh => exact absurd rfl hf
    | ho =>
      cases m' <;> first | exact h | (simp [Mk.eqv, Mk.free] at he; done)
    | ow a =>
      cases m' with
      | ow b =>
        have he : a.eqv b = true := he
        cases k with
        | int i => exact ⟨h.1, h.2.imp (fun h => by cases h.1) fun h => ⟨by simp, h.2⟩⟩
        | bool => exact ⟨h.1, h.2.imp (fun h => by cases h.1) fun h => ⟨by simp, h.2⟩⟩
        | str => exact ⟨h.1, h.2.imp (fun h => by cases h.1) fun h => ⟨by simp, h.2⟩⟩
        | unit => exact h
        | pair p q => exact h
        | arr n e => exact ⟨h.1, h.2.imp fun F' y c _ hr => Rz_eqv e a b F' y c he hr⟩
        | sl T e =>
          rcases h with h | ⟨g, cap, C, Fe, h1, h2, h3, h4, h5, h6⟩
          · exact .inl h
          · exact .inr ⟨g, cap, C, Fe, h1, h2, h3, h4, h5, h6.imp fun F' y c _ hr => Rz_eqv e a b F' y c he hr⟩
        | ptr T e =>
          obtain ⟨g, C, Fe, h1, h2, h3, h4⟩ := h
          exact ⟨g, C, Fe, h1, h2, h3, Rz_eqv e a b _ _ _ he h4⟩
        | unk => exact h
        | fn f e => exact ⟨h.1, h.2.imp (fun h => by cases h.1) fun h => ⟨by simp, h.2⟩⟩
        | bld T e => exact h
        | map _ _ => exact h
        | ifc t e =>
          rcases h with h | ⟨hm, h | ⟨y, v, cs', h1, h2, h3, h4⟩⟩
          · cases h.1
          · exact .inr ⟨by simp, .inl h⟩
          · exact .inr ⟨by simp, .inr ⟨y, v, cs', h1, h2, h3, Rz_eqv e a b _ _ _ he h4⟩⟩
        | fnv => exact ⟨h.1, h.2.imp (fun h => by cases h.1) fun h => ⟨by simp, h.2⟩⟩
        | win s =>
          rcases h with h | ⟨_, A, n, cap, h1, h2, hr⟩
          · cases h.1
          · exact .inr ⟨by simp, A, n, cap, h1, h2, Rz_eqv s (.ow a) (.ow b) _ _ _ he hr⟩
        | opt _ s => exact h.imp id fun ⟨y, h1, h2⟩ => ⟨y, h1, Rz_eqv s (.ow a) (.ow b) _ _ _ he h2⟩
      | _ => simp [Mk.eqv, Mk.free] at he
    | pr a b =>
      cases m' with
      | pr c d =>
        simp only [Mk.eqv, Bool.and_eq_true] at he
        cases k with
        | int i => exact ⟨h.1, h.2.imp (fun h => by cases h.1) fun h => ⟨by simp, h.2⟩⟩
        | bool => exact ⟨h.1, h.2.imp (fun h => by cases h.1) fun h => ⟨by simp, h.2⟩⟩
        | str => exact ⟨h.1, h.2.imp (fun h => by cases h.1) fun h => ⟨by simp, h.2⟩⟩
        | unit => exact h
        | pair p q =>
          obtain ⟨F1, F2, c1, c2, h1, h2, h3, h4⟩ := h
          exact ⟨F1, F2, c1, c2, h1, h2, Rz_eqv p a c _ _ _ he.1 h3, Rz_eqv q b d _ _ _ he.2 h4⟩
        | arr n e => exact h
        | sl T e => exact ⟨h.1, h.2.imp (fun h => by cases h.1) fun h => ⟨by simp, h.2⟩⟩
        | ptr T e => exact ⟨h.1, h.2.imp (fun h => by cases h.1) fun h => ⟨by simp, h.2⟩⟩
        | unk => exact h
        | fn f e => exact ⟨h.1, h.2.imp (fun h => by cases h.1) fun h => ⟨by simp, h.2⟩⟩
        | bld T e => exact h
        | map _ _ => exact ⟨h.1, h.2.imp (fun h => by cases h.1) fun h => ⟨by simp, h.2⟩⟩
        | ifc t e =>
          rcases h with h | ⟨hm, h | ⟨y, v, cs', h1, h2, h3, h4⟩⟩
          · cases h.1
          · exact .inr ⟨by simp, .inl h⟩
          · exact .inr ⟨by simp, .inr ⟨y, v, cs', h1, h2, h3, h4⟩⟩
        | fnv => exact ⟨h.1, h.2.imp (fun h => by cases h.1) fun h => ⟨by simp, h.2⟩⟩
        | win s =>
          rcases h with h | ⟨_, A, n, cap, h1, h2, hr⟩
          · cases h.1
          · exact .inr ⟨by simp, A, n, cap, h1, h2, Rz_eqv s (.pr a b) (.pr c d) _ _ _ (by simp only [Mk.eqv, Bool.and_eq_true]; exact he) hr⟩
        | opt _ s => exact h.imp id fun ⟨y, h1, h2⟩ => ⟨y, h1, Rz_eqv s (.pr a b) (.pr c d) _ _ _ (by simp only [Mk.eqv, Bool.and_eq_true]; exact he) h2⟩
      | sh =>
        have := Mk.eqv_free he
        exact absurd (this.trans rfl) hf
      | ow c => simp [Mk.eqv, Mk.free] at he
      | ho => simp [Mk.eqv, Mk.free] at he
termination_by k => k

/-- What may be read where these roots are given up, but for the blocks that go over. -/
def Sh1 (cx : Cx) (Fp : Nat → List Nat) (dead : List Nat) (F : List Nat) (b : Nat) : Prop := cx.Sh Fp b ∨ ((∃ q ∈ dead, b ∈ Fp q) ∧ b ∉ F)

theorem dead_flat (V : Nat → Value) (ds : List Nat) : (ds.map fun q => (⟨q, none, V q, []⟩ : NR)).flatMap (·.F) = [] := by
  induction ds with
  | nil => rfl
  | cons d ds ih => simp [List.map_cons, List.flatMap_cons, ih]

/-- A new root out of roots that are given up. -/
theorem Pre.gather (h : Pre cx g a w V Fp) {dead : List Nat} (hdead : ∀ q ∈ dead, ∃ R, g.rt q = some (some R)) {r' : Nat} (hr' : g.rt r' = none) {F1 F' : List Nat} {w' : World} (hos : w'.os = w.os) (htape : w'.tape = w.tape) (hout : w'.output = w.output) (hsz : w.heap.size ≤ w'.heap.size)
    (hfr : ∀ b, b < w.heap.size → b ∉ F1 → w'.heap[b]? = w.heap[b]?) (hF1 : ∀ b ∈ F1, ∃ q ∈ dead, b ∈ Fp q) {Fall : List Nat} (hF1a : ∀ b ∈ F1, b ∈ Fall) (hFall : ∀ b ∈ Fall, ∃ q ∈ dead, b ∈ Fp q) (hF' : ∀ b ∈ F', b ∈ Fall ∨ w.heap.size ≤ b) (hnd : F'.Nodup)
    {k : Kt} {m : Mk} {x : k.T} {v : Value} {cs : List Value} (hsh : Shows k v cs) (hz : ∀ Sh', Kp w (Sh1 cx Fp dead Fall) w' Sh' → Rz w' Sh' k m F' x cs) {d : Option Tmp} (hd : ∀ t, d = some t → cx.T t) :
    GSat cx (g.put d (one (.own r')) (rtA g.rt (⟨r', some ⟨k, m, 0, x⟩, v, F'⟩ :: dead.map fun q => ⟨q, none, V q, []⟩))) (a.put d v) w' := by
  have hne : ∀ q ∈ dead, q ≠ r' := fun q hq e => by
    obtain ⟨R, hR⟩ := hdead q hq
    rw [e, hr'] at hR; cases hR
  have hlk : lookR ((⟨r', some ⟨k, m, 0, x⟩, v, F'⟩ : NR) :: dead.map fun q => ⟨q, none, V q, []⟩) r' = some ⟨r', some ⟨k, m, 0, x⟩, v, F'⟩ := by simp [lookR]
  have hkp : Kp w (cx.Sh Fp) w' (cx.Sh (fA Fp ((⟨r', some ⟨k, m, 0, x⟩, v, F'⟩ : NR) :: dead.map fun q => ⟨q, none, V q, []⟩))) → Kp w (Sh1 cx Fp dead Fall) w' (cx.Sh (fA Fp ((⟨r', some ⟨k, m, 0, x⟩, v, F'⟩ : NR) :: dead.map fun q => ⟨q, none, V q, []⟩))) := fun hK => ⟨hsz, fun b hb hlt => by
    rcases hb with hb | ⟨⟨q, hq, hbq⟩, hnF⟩
    · exact hK.sh b hb hlt
    · refine ⟨hfr b hlt fun h1 => hnF (hF1a b h1), .inr (h.mem.own q b hbq), fun s hs => ?_⟩
      unfold fA at hs
      split at hs
      · rename_i y hy
        obtain ⟨hy1, hy2⟩ := lookR_some hy
        rcases List.mem_cons.1 hy1 with rfl | hy1
        · rcases hF' b hs with h2 | h2
          · exact hnF h2
          · omega
        · obtain ⟨q', _, rfl⟩ := List.mem_map.1 hy1
          cases hs
      · rename_i hy
        by_cases hsq : s = q
        · subst hsq
          exact lookR_none hy ⟨s, none, V s, []⟩ (List.mem_cons_of_mem _ (List.mem_map.2 ⟨s, hq, rfl⟩)) rfl
        · exact h.mem.disj s q hsq b hs hbq⟩
  have al_of : ∀ b, (∃ q ∈ dead, b ∈ Fp q) → ∃ y ∈ ((⟨r', some ⟨k, m, 0, x⟩, v, F'⟩ : NR) :: dead.map fun q => ⟨q, none, V q, []⟩), b ∈ Fp y.r := fun b ⟨q, hq, hb⟩ => ⟨⟨q, none, V q, []⟩, List.mem_cons_of_mem _ (List.mem_map.2 ⟨q, hq, rfl⟩), hb⟩
  refine h.many _ (F := F1) ⟨hos, htape, hout, hsz, hfr⟩ (fun b hb => al_of b (hF1 b hb)) (fun y hy b hb => ?_) ?_ (fun y hy hy' => ?_) (fun y hy R hR hK => ?_) (fun y hy _ _ => ?_) hd fun j en hj hK => ?_
  · rcases List.mem_cons.1 hy with rfl | hy
    · rcases hF' b hb with h2 | h2
      · exact .inr (al_of b (hFall b h2))
      · exact .inl h2
    · obtain ⟨q, _, rfl⟩ := List.mem_map.1 hy; cases hb
  · rw [List.flatMap_cons, dead_flat, List.append_nil]; exact hnd
  · rcases List.mem_cons.1 hy with rfl | hy
    · cases hy'
    · obtain ⟨q, _, rfl⟩ := List.mem_map.1 hy; rfl
  · rcases List.mem_cons.1 hy with rfl | hy
    · obtain rfl := Option.some.inj hR
      exact ⟨cs, hsh, hz _ (hkp hK)⟩
    · obtain ⟨q, _, rfl⟩ := List.mem_map.1 hy; cases hR
  · rcases List.mem_cons.1 hy with rfl | hy
    · show RKeep _ _ _ _ _ _ r' (g.rt r') _
      rw [hr']; trivial
    · obtain ⟨q, hq, rfl⟩ := List.mem_map.1 hy
      obtain ⟨R, hR⟩ := hdead q hq
      show RKeep _ _ _ _ _ _ q (g.rt q) _
      rw [hR]; exact .inl rfl
  · unfold one at hj
    split at hj
    · rename_i h0; subst h0
      obtain rfl := Option.some.inj hj
      refine ⟨_, rfl, some ⟨k, m, 0, x⟩, ?_, fun _ => ?_⟩
      · simp only [rtA, hlk]
      · simp only [vA, hlk]
    · cases hj

theorem gather_ru {E : Type} {e : E} {r' : Nat} {k : Kt} {m : Mk} {x : E → k.T} {v : Value} {F' : List Nat} (dead : List Nat) (rt : Nat → Option GR) : rtA rt ((⟨r', some ⟨k, m, 0, x e⟩, v, F'⟩ : NR) :: dead.map fun q => ⟨q, none, V q, []⟩) = rtU rt ((r', some ⟨k, m, 0, x⟩) :: deadL (E := E) dead) e :=
  rtA_rtU (by rw [List.map_cons, List.map_cons, map_deadL (V := V) (e := e) dead]; rfl) rt

/-- append, roots going over. -/
theorem op_append_gen (h : Pre cx g a w V Fp) {t t2 T : TypeId} {x y : Operand} (ho : o.op = .call { callee := .builtin .append, args := #[x, y], argTypes := #[t, t2] }) {dead : List Nat} (hdead : ∀ q ∈ dead, ∃ R, g.rt q = some (some R)) {r' : Nat} (hr' : g.rt r' = none) {el : Kt} {m : Mk} {F1 Fn : List Nat} {xs ys : List el.T} {news : List Value}
    (hF : ∀ b ∈ F1 ++ Fn, ∃ q ∈ dead, b ∈ Fp q) (hFnd : (F1 ++ Fn).Nodup) (hx : Rz w (Sh1 cx Fp dead (F1 ++ Fn)) (.sl T el) (.ow m) F1 xs [a.eval x]) (hsrc : Src P el.size t2 (a.eval y) ys.length news w) (hnews : RzL (Rz w (Sh1 cx Fp dead (F1 ++ Fn)) el m) Fn ys news)
    {bytes : Nat} (ht : appOk P t T el bytes = true) (hfit : appFits xs.length ys.length bytes = true) (hd : ∀ t, o.dst = some t → cx.T t) :
    o.wp P a w (fun a' w' => ∃ v F', GSat cx (g.put o.dst (one (.own r')) (rtA g.rt (⟨r', some ⟨.sl T el, .ow m, 0, xs ++ ys⟩, v, F'⟩ :: dead.map fun q => ⟨q, none, V q, []⟩))) a' w') Q := by
  obtain ⟨hu, i, z, hi, hs, hby, hz, hzs⟩ := appOk_spec ht
  simp only [appFits, Bool.and_eq_true, decide_eq_true_eq] at hfit
  obtain ⟨v', w', F', hrun, e1, e2, e3, e4, e5, e6, e7, e8⟩ := run_append (ty := o.type) hu hi hs hz hzs hx (List.nodup_append.1 hFnd).1 hsrc hnews hFnd (by rw [hby]; exact hfit.1) hfit.2
  refine wp_val (v := v') (w' := w') (by simp only [execOp, ho, resolve, Sem.run_bind, invoke, builtin]; simp [hrun]) ⟨v', F', ?_⟩
  refine h.gather hdead hr' e1 e2 e3 e4 e5 (fun b hb => hF b (List.mem_append_left _ hb)) (Fall := F1 ++ Fn) (fun b hb => List.mem_append_left _ hb) hF (fun b hb => ?_) e7 (cs := [v']) (by simp [Shows, Kt.isAgg]) (fun Sh' hK => e8 Sh' hK fun b hb => ?_) hd
  · rcases e6 b hb with h1 | h1 | h1
    · exact .inl (List.mem_append_left _ h1)
    · exact .inl (List.mem_append_right _ h1)
    · exact .inr h1
  · obtain ⟨q, hq, hbq⟩ := hF b (List.mem_append_right _ hb)
    exact ⟨h.mem.lt hbq, fun hb' => (List.nodup_append.1 hFnd).2.2 b hb' b hb rfl⟩

/-- What lies in an owned slice: a source. -/
theorem Pre.src_own (h : Pre cx g a w V Fp) {el : Kt} {T t2 : TypeId} {m : Mk} {hv r : Nat} {ys : List el.T} {v : Value} (hu : P.underlying t2 = some (.slice T)) (hr : g.rt r = some (some ⟨.sl T el, .ow m, hv, ys⟩)) (hy : ESat cx g.rt V Fp w (.own r) v) :
    ∃ news Fe, Src P el.size t2 v ys.length news w ∧ RzL (Rz w (cx.Sh Fp) el m) Fe ys news ∧ (∀ b ∈ Fe, b ∈ Fp r) ∧ Fe.Nodup := by
  obtain ⟨R, h1, h2⟩ := hy
  rw [hr] at h1
  obtain rfl := Option.some.inj h1
  have hvv := h2 (by simp)
  obtain ⟨cs, k1, k2⟩ := h.mem.roots r _ hr
  simp [Shows, Kt.isAgg] at k1
  subst k1
  have hnd := h.mem.nodup r
  rcases k2 with ⟨_, rfl, k3⟩ | ⟨b, cap, C, Fe, k3, k4, k5, k6, k7, k8⟩
  · have k3 := (List.cons.inj k3).1
    rw [hvv, k3]
    exact ⟨[], [], Src.ofNil w hu 0, .nil, by simp, List.nodup_nil⟩
  · have k3 := (List.cons.inj k3).1
    rw [hvv, k3]
    rw [k4] at hnd
    exact ⟨_, Fe, Src.ofSlice w hu _ _ cap _ (k8.len (Rz_len _ _ _ _)) (fun j u hj => by rw [Addr.add_lit]; exact CellsAt_block k5 j u hj) (k8.one fun F' x c hr => Rz_one _ _ _ _ _ _ _ hr), k8, fun b hb => by rw [k4]; exact List.mem_cons_of_mem _ hb, (List.nodup_cons.1 hnd).2⟩
end

section
variable {E : Type} {P : Program} {o : Oper} {s : Lst E} {gs : Gs}

/-- append where roots within go over, or are given up. -/
def c_appendG (P : Program) (s : Lst E) (gs : Gs) (t t2 : TypeId) (x y : Operand) (kn : Option (TypeId × Kt)) : Option (OR E) := match s.op gs x, s.op gs y with
  | some (.own r), some (.own q) => match s.root gs r, s.root gs q with
    | some ⟨.sl T el, .ow m, _, xs⟩, some ⟨.sl T' el', .ow m', _, ys⟩ => if r = q then none else if hk : el' = el then
        if T' = T ∧ slElem P t2 T = true ∧ appOk P t T el (bytesOf' P T) = true then
          if m' = m then some ⟨some fun e => appFits (xs e).length (List.length (ys e)) (bytesOf' P T), [(0, .own s.nx)], (s.nx, some ⟨.sl T el, .ow m, 0, fun e => xs e ++ (hk ▸ ys e : List el.T)⟩) :: deadL [r, q], 1⟩
          else if m.whole && m'.whole then some ⟨some fun e => appFits (xs e).length (List.length (ys e)) (bytesOf' P T), [(0, .own s.nx)], (s.nx, some ⟨.sl T el, .ow .sh, 0, fun e => xs e ++ (hk ▸ ys e : List el.T)⟩) :: deadL [r, q], 1⟩
          else none
        else none
      else none
    | _, _ => none
  | some (.cst (.slice none 0 0)), some (.own q) => match s.root gs q with
    | some ⟨.sl T' el', .ow m', _, ys⟩ => if slElem P t2 T' = true ∧ appOk P t T' el' (bytesOf' P T') = true then
        some ⟨some fun e => appFits 0 (List.length (ys e)) (bytesOf' P T'), [(0, .own s.nx)], (s.nx, some ⟨.sl T' el', .ow m', 0, ys⟩) :: deadL [q], 1⟩
      else none
    | _ => none
  | some (.own r), _ => match s.root gs r with
    | some ⟨.sl T el, .ow m, _, xs⟩ => if m.whole && appOk P t T el (bytesOf' P T) then
        match c_src P s gs t2 T el y with
        | some ys => some ⟨some fun e => appFits (xs e).length (ys e).length (bytesOf' P T), [(0, .own s.nx)], (s.nx, some ⟨.sl T el, .ow .sh, 0, fun e => xs e ++ ys e⟩) :: deadL [r], 1⟩
        | none => none
      else none
    | _ => none
  | _, _ => none

theorem hdead_one {g : G} {q : Nat} {R : GRoot} (h : g.rt q = some (some R)) : ∀ r ∈ [q], ∃ R, g.rt r = some (some R) := fun r hr => by rw [List.mem_singleton.1 hr]; exact ⟨R, h⟩

theorem own_slice {cx : Cx} {g : G} {a : Act} {w : World} {V : Nat → Value} {Fp : Nat → List Nat} (hp : Pre cx g a w V Fp) {r : Nat} {T : TypeId} {el : Kt} {m : Mk} {hv : Nat} {xs : List el.T} {v : Value} (hr : g.rt r = some (some ⟨.sl T el, .ow m, hv, xs⟩)) (hx : ESat cx g.rt V Fp w (.own r) v) : Rz w (cx.Sh Fp) (.sl T el) (.ow m) (Fp r) xs [v] := by
  obtain ⟨R, h1, h2⟩ := hx
  rw [hr] at h1
  obtain rfl := Option.some.inj h1
  have hvv := h2 (by simp)
  obtain ⟨cs, k1, k2⟩ := hp.mem.roots r _ hr
  simp [Shows, Kt.isAgg] at k1
  subst k1
  rw [hvv]
  exact k2

theorem kp_sh1 {cx : Cx} {w : World} {Fp : Nat → List Nat} {dead F : List Nat} : Kp w (cx.Sh Fp) w (Sh1 cx Fp dead F) := ⟨Nat.le_refl _, fun b hb _ => ⟨rfl, .inl hb⟩⟩

theorem snd_appendG {t t2 : TypeId} {x y : Operand} {kn : Option (TypeId × Kt)} {r : OR E} (ho : o.op = .call { callee := .builtin .append, args := #[x, y], argTypes := #[t, t2] }) (h : c_appendG P s gs t t2 x y kn = some r) : Snd P o s gs r := by
  unfold c_appendG at h
  have mx : x ∈ o.op.operands := by simp [ho, Op.operands, Call.operands]
  have my : y ∈ o.op.operands := by simp [ho, Op.operands, Call.operands]
  split at h <;> try (cases h; done)
  · rename_i r0 q hx hy
    split at h <;> try (cases h; done)
    rename_i T el m hv xs T' el' m' hv' ys hR hR'
    split at h <;> try (cases h; done)
    rename_i hrq
    split at h <;> try (cases h; done)
    rename_i hk
    split at h <;> try (cases h; done)
    rename_i hc
    obtain ⟨rfl, hu2, happ⟩ := hc
    have hu2 := slElem_spec hu2
    subst hk
    have common : ∀ (cx : Cx) (e : E) (g : G) (a : Act) (w : World) (V : Nat → Value) (Fp : Nat → List Nat), s.on gs e = true → (∀ n, Agree g s e (opTmps o) n → Pre cx g a w V Fp →
        (∀ q0 ∈ [r0, q], ∃ R, g.rt q0 = some (some R)) ∧ g.rt r0 = some (some ⟨.sl T' el', .ow m, hv, xs e⟩) ∧ g.rt q = some (some ⟨.sl T' el', .ow m', hv', ys e⟩) ∧ ESat cx g.rt V Fp w (.own r0) (a.eval x) ∧ ESat cx g.rt V Fp w (.own q) (a.eval y)) := by
      intro cx e g a w V Fp h1 n hA hp
      have hr1 := (Lst.op_root hA mx hx (List.mem_singleton_self _)).trans (Lst.root_gr h1 hR)
      have hr2 := (Lst.op_root hA my hy (List.mem_singleton_self _)).trans (Lst.root_gr h1 hR')
      refine ⟨fun q0 hq0 => ?_, hr1, hr2, Lst.op_esat hp hA h1 mx hx, Lst.op_esat hp hA h1 my hy⟩
      simp only [List.mem_cons, List.not_mem_nil, or_false] at hq0
      rcases hq0 with rfl | rfl
      · exact ⟨_, hr1⟩
      · exact ⟨_, hr2⟩
    split at h
    · rename_i hm
      subst hm
      obtain rfl := Option.some.inj h
      intro cx e g a w V Fp Q h1 hok hA hd hp
      rw [OR.ok_holds] at hok
      obtain ⟨hdead, hr1, hr2, hex, hey⟩ := common cx e g a w V Fp h1 _ hA hp
      obtain ⟨news, Fe, hsrc, hnews, hFe, hFend⟩ := hp.src_own hu2 hr2 hey
      have hnr : g.rt s.nx = none := by have := hA.new 0 (by simp); simpa using this
      have hnd : (Fp r0 ++ Fe).Nodup := List.nodup_append.2 ⟨hp.mem.nodup r0, hFend, fun b hb c hc' e => hp.mem.disj r0 q hrq b hb (e ▸ hFe c hc')⟩
      refine Oper.wp_mono (fun a' w' ⟨v, F', hg⟩ => ?_) (op_append_gen hp ho hdead hnr (F1 := Fp r0) (Fn := Fe) (fun b hb => ?_) hnd (Rz_keep kp_sh1 _ _ _ _ _ (fun _ _ => rfl) (own_slice hp hr1 hex)) hsrc (hnews.imp fun F' x c hF hr => Rz_keep kp_sh1 _ _ _ _ _ (fun _ _ => rfl) hr) happ hok hd)
      rotate_left
      · rw [gather_ru (e := e) (x := fun e => xs e ++ ys e)] at hg
        rw [evs_one]
        exact hg
      · rcases List.mem_append.1 hb with hb | hb
        · exact ⟨r0, by simp, hb⟩
        · exact ⟨q, by simp, hFe b hb⟩
    · split at h <;> try (cases h; done)
      rename_i hw
      rw [Bool.and_eq_true] at hw
      obtain rfl := Option.some.inj h
      intro cx e g a w V Fp Q h1 hok hA hd hp
      rw [OR.ok_holds] at hok
      obtain ⟨hdead, hr1, hr2, hex, hey⟩ := common cx e g a w V Fp h1 _ hA hp
      obtain ⟨news, Fe, hsrc, hnews, hFe, hFend⟩ := hp.src_own hu2 hr2 hey
      have hnr : g.rt s.nx = none := by have := hA.new 0 (by simp); simpa using this
      have hnd : ((Fp r0).take 1 ++ []).Nodup := by rw [List.append_nil]; exact (hp.mem.nodup r0).sublist (List.take_sublist 1 _)
      have hdrop : ∀ b ∈ (Fp r0).drop 1, Sh1 cx Fp [r0, q] ((Fp r0).take 1 ++ []) b := fun b hb => .inr ⟨⟨r0, by simp, List.mem_of_mem_drop hb⟩, fun hb' => by
        have hn := hp.mem.nodup r0
        rw [← List.take_append_drop 1 (Fp r0), List.nodup_append] at hn
        rw [List.append_nil] at hb'
        exact hn.2.2 b hb' b hb rfl⟩
      have hq : ∀ b ∈ Fp q, Sh1 cx Fp [r0, q] ((Fp r0).take 1 ++ []) b := fun b hb => .inr ⟨⟨q, by simp, hb⟩, fun hb' => by
        rw [List.append_nil] at hb'
        exact hp.mem.disj r0 q hrq b (List.mem_of_mem_take hb') hb⟩
      refine Oper.wp_mono (fun a' w' ⟨v, F', hg⟩ => ?_) (op_append_gen hp ho hdead hnr (m := .sh) (F1 := (Fp r0).take 1) (Fn := []) (fun b hb => ?_) hnd (Rz_relax (fun b hb _ => .inl hb) _ _ _ _ _ hw.1 rfl hdrop (own_slice hp hr1 hex)) hsrc (hnews.imp_free fun F' x c hF hr => Rz_share (fun b hb _ => .inl hb) _ _ _ _ _ hw.2 (fun b hb => hq b (hFe b (hF b hb))) hr) happ hok hd)
      rotate_left
      · rw [gather_ru (e := e) (x := fun e => xs e ++ ys e)] at hg
        rw [evs_one]
        exact hg
      · rw [List.append_nil] at hb
        exact ⟨r0, by simp, List.mem_of_mem_take hb⟩
  · rename_i q hx hy
    split at h <;> try (cases h; done)
    rename_i T' el' m' hv' ys hR'
    split at h <;> try (cases h; done)
    rename_i hc
    obtain rfl := Option.some.inj h
    intro cx e g a w V Fp Q h1 hok hA hd hp
    rw [OR.ok_holds] at hok
    have hr2 := (Lst.op_root hA my hy (List.mem_singleton_self _)).trans (Lst.root_gr h1 hR')
    obtain ⟨news, Fe, hsrc, hnews, hFe, hFend⟩ := hp.src_own (slElem_spec hc.1) hr2 (Lst.op_esat hp hA h1 my hy)
    have hnr : g.rt s.nx = none := by have := hA.new 0 (by simp); simpa using this
    have hxv : a.eval x = .slice none 0 0 := Lst.op_esat hp hA h1 mx hx
    refine Oper.wp_mono (fun a' w' ⟨v, F', hg⟩ => ?_) (op_append_gen hp ho (hdead_one hr2) hnr (m := m') (F1 := []) (Fn := Fe) (fun b hb => ⟨q, by simp, hFe b (by simpa using hb)⟩) (by simpa using hFend) (xs := []) (by rw [hxv]; exact .inl ⟨rfl, rfl, rfl⟩) hsrc (hnews.imp fun F' x c hF hr => Rz_keep kp_sh1 _ _ _ _ _ (fun _ _ => rfl) hr) hc.2 hok hd)
    rw [gather_ru (e := e) (x := fun e => [] ++ ys e)] at hg
    rw [evs_one]
    exact hg
  · rename_i _ _ r0 hx _
    split at h <;> try (cases h; done)
    rename_i T el m hv xs hR
    split at h <;> try (cases h; done)
    rename_i hw
    rw [Bool.and_eq_true] at hw
    split at h <;> try (cases h; done)
    rename_i ys hys
    obtain rfl := Option.some.inj h
    intro cx e g a w V Fp Q h1 hok hA hd hp
    rw [OR.ok_holds] at hok
    have hr1 := (Lst.op_root hA mx hx (List.mem_singleton_self _)).trans (Lst.root_gr h1 hR)
    obtain ⟨news, hsrc, hnews⟩ := c_src_spec hys hp hA h1 my
    have hnr : g.rt s.nx = none := by have := hA.new 0 (by simp); simpa using this
    have hnd : ((Fp r0).take 1 ++ []).Nodup := by rw [List.append_nil]; exact (hp.mem.nodup r0).sublist (List.take_sublist 1 _)
    have hdrop : ∀ b ∈ (Fp r0).drop 1, Sh1 cx Fp [r0] ((Fp r0).take 1 ++ []) b := fun b hb => .inr ⟨⟨r0, by simp, List.mem_of_mem_drop hb⟩, fun hb' => by
      have hn := hp.mem.nodup r0
      rw [← List.take_append_drop 1 (Fp r0), List.nodup_append] at hn
      rw [List.append_nil] at hb'
      exact hn.2.2 b hb' b hb rfl⟩
    refine Oper.wp_mono (fun a' w' ⟨v, F', hg⟩ => ?_) (op_append_gen hp ho (hdead_one hr1) hnr (m := .sh) (F1 := (Fp r0).take 1) (Fn := []) (fun b hb => ?_) hnd (Rz_relax (fun b hb _ => .inl hb) _ _ _ _ _ hw.1 rfl hdrop (own_slice hp hr1 (Lst.op_esat hp hA h1 mx hx))) hsrc (hnews.imp fun F' x c hF hr => Rz_keep kp_sh1 _ _ _ _ _ (fun _ _ => rfl) hr) hw.2 hok hd)
    rotate_left
    · rw [gather_ru (e := e) (x := fun e => xs e ++ ys e)] at hg
      rw [evs_one]
      exact hg
    · rw [List.append_nil] at hb
      exact ⟨r0, by simp, List.mem_of_mem_take hb⟩
end
end Go.Lift

namespace Go.Lift
set_option linter.unusedVariables false
set_option linter.unusedSimpArgs false

theorem Rz_ho {w : World} {Sh : Nat → Prop} : ∀ (k : Kt) (m : Mk) (F : List Nat) (x : k.T) (cs : List Value), Rz w Sh k m F x cs → Rz w Sh k .ho [] x cs
  | .int i, m, F, x, cs, h => ⟨rfl, .inl ⟨rfl, Rz_len _ _ _ _ _ _ _ h, Rz_one _ _ _ _ _ _ _ h⟩⟩
  | .bool, m, F, x, cs, h => ⟨rfl, .inl ⟨rfl, Rz_len _ _ _ _ _ _ _ h, Rz_one _ _ _ _ _ _ _ h⟩⟩
  | .str, m, F, x, cs, h => ⟨rfl, .inl ⟨rfl, Rz_len _ _ _ _ _ _ _ h, Rz_one _ _ _ _ _ _ _ h⟩⟩
  | .unit, m, F, x, cs, h => ⟨rfl, h.2⟩
  | .pair a b, m, F, x, cs, h => by
    obtain ⟨F1, F2, c1, c2, rfl, rfl, h1, h2⟩ := h
    exact ⟨[], [], c1, c2, rfl, rfl, Rz_ho a _ _ _ _ h1, Rz_ho b _ _ _ _ h2⟩
  | .arr n e, m, F, xs, cs, h => ⟨h.1, h.2.imp_free fun F' x c hF hr => Rz_ho e _ _ _ _ hr⟩
  | .sl T e, m, F, xs, cs, h => ⟨rfl, .inl ⟨rfl, Rz_len _ _ _ _ _ _ _ h, Rz_one _ _ _ _ _ _ _ h⟩⟩
  | .ptr T e, m, F, xs, cs, h => ⟨rfl, .inl ⟨rfl, Rz_len _ _ _ _ _ _ _ h, Rz_one _ _ _ _ _ _ _ h⟩⟩
  | .unk, m, F, x, cs, h => ⟨rfl, h.2⟩
  | .map a b, m, F, x, cs, h => ⟨rfl, .inl ⟨rfl, Rz_len w Sh (.map a b) m F x cs h, Rz_one w Sh (.map a b) m F x cs h⟩⟩
  | .bld T e, m, F, x, cs, h => ⟨rfl, Rz_len _ _ _ _ _ _ _ h, Rz_one _ _ _ _ _ _ _ h⟩
  | .ifc t e, m, F, x, cs, h => .inl ⟨rfl, rfl, Rz_len _ _ _ _ _ _ _ h, Rz_one _ _ _ _ _ _ _ h⟩
  | .fnv, m, F, x, cs, h => ⟨rfl, .inl ⟨rfl, Rz_len _ _ _ _ _ _ _ h, Rz_one _ _ _ _ _ _ _ h⟩⟩
  | .win s, m, F, x, cs, h => .inl ⟨rfl, rfl, by have := Rz_len w Sh (.win s) m F x cs h; exact ⟨this, Rz_one w Sh (.win s) m F x cs h⟩⟩
  | .fn f e, m, F, x, cs, h => ⟨rfl, .inl ⟨rfl, Rz_len _ _ _ _ _ _ _ h, Rz_one _ _ _ _ _ _ _ h⟩⟩
  | .opt b s, m, F, x, cs, h => h.imp (fun h => ⟨h.1, rfl, h.2.2⟩) fun ⟨y, h1, h2⟩ => ⟨y, h1, Rz_ho s _ _ _ _ h2⟩

section
variable {P : Program} {cx : Cx} {g : G} {a : Act} {w : World} {V : Nat → Value} {Fp : Nat → List Nat} {o : Oper} {Q : Exit → Act → World → Prop}

/-- load: what is owned within goes over to the loaded value; the place is a hole from then on. -/
theorem op_load_take (h : Pre cx g a w V Fp) {t : TypeId} {x : Operand} (ho : o.op = .load t x) {r hv r' : Nat} {R : GRoot} {E : Type} (e : E) {p : Path E} {L : Lens E R.k} (hx : ESat cx g.rt V Fp w (.loc r hv (p.at e)) (a.eval x))
    (hr : g.rt r = some (some R)) (how : ∃ m1, R.m = .ow m1) (hl : live R hv (p.at e) = true) (hL : lens R.k R.m p = some L) (hok : L.ok e R.x = true) (ht : tyOk P t L.k' = true) {mr : Mk} (hms : mset R.k R.m p.sh .ho = some mr) (hr' : g.rt r' = none) (hd : ∀ t, o.dst = some t → cx.T t) :
    o.wp P a w (fun a' w' => GSat cx (g.put o.dst (one (.own r')) (upd (upd g.rt r (some (some ⟨R.k, mr, R.hv + 1, L.put e R.x (L.get e R.x)⟩))) r' (some (some ⟨L.k', L.m', 0, L.get e R.x⟩)))) a' w') Q := by
  obtain ⟨b, o', h1, h2⟩ := hx.loc_at hr hl (gok_lens' e hL hok)
  obtain ⟨Fa, Fo, Fb, c, hF, hc, H⟩ := h.hole hr e hL hok
  rcases H with ⟨c1, c2, k1, k2, _⟩ | ⟨b', c1, c2, T', hb, k2, k3, k4⟩
  · rw [k2 none] at h2; cases h2
  have := k2 none
  rw [h2] at this
  obtain ⟨rfl, rfl⟩ := Prod.mk.inj (Option.some.inj this)
  clear this
  have hca : CellsAt w b c1.length c := fun j v hj => by
    rw [cell_of_block k3]
    simpa using app_at c1 c c2 hj
  obtain ⟨v, hrun, hs⟩ := run_load_at ht hca (Rz_len _ _ _ _ _ _ _ hc) bare_size
  have hnd : (Fa ++ (Fo ++ Fb)).Nodup := hF ▸ h.mem.nodup r
  have n1 := List.nodup_append.1 hnd
  have n2 := List.nodup_append.1 n1.2.1
  have hFr : Fp r' = [] := h.mem.none r' (by rw [hr']; simp)
  have hne : r ≠ r' := fun e => by rw [e, hr'] at hr; cases hr
  obtain ⟨csr, hsr, hzr⟩ := h.mem.roots r R hr
  have hFo : ∀ u ∈ Fo, u ∉ Fa ++ Fb := fun u hu hu' => by
    rcases List.mem_append.1 hu' with hu' | hu'
    · exact n1.2.2 u hu' u (List.mem_append_left _ hu) rfl
    · exact n2.2.2 u hu u hu' rfl
  refine wp_val (v := v) (by simp only [execOp, ho, h1, Sem.run_bind, hrun, Result.andThen_ok]; rfl) ?_
  refine GSat.step (V' := upd V r' v) (Fp' := upd (upd Fp r (Fa ++ Fb)) r' Fo) (A := fun s => s = r ∨ s = r') h.defers h.size h.mem h.ents
    ⟨rfl, rfl, rfl, Nat.le_refl _, fun u _ _ => rfl, fun s hs => ?_, fun s hs u hu => ?_, fun s hs => ?_, fun s s' hs hs' hne' u hu hu' => ?_, fun s hs hn => ?_, fun s R' hs hR hK => ?_, fun s hs => ?_⟩ hd fun i ent hi => ?_
  · have h1 : s ≠ r := fun e => hs (.inl e)
    have h2 : s ≠ r' := fun e => hs (.inr e)
    exact ⟨by rw [upd_ne _ _ h2, upd_ne _ _ h1], upd_ne _ _ h2, by rw [upd_ne _ _ h2, upd_ne _ _ h1]⟩
  · refine .inr ⟨r, .inl rfl, ?_⟩
    rw [hF]
    rcases hs with rfl | rfl
    · rw [upd_ne _ _ hne, upd_same] at hu
      rcases List.mem_append.1 hu with hu | hu <;> simp [hu]
    · rw [upd_same] at hu
      simp [hu]
  · rcases hs with rfl | rfl
    · rw [upd_ne _ _ hne, upd_same]
      exact List.nodup_append.2 ⟨n1.1, n2.2.1, fun u hu v hv e => n1.2.2 u hu v (List.mem_append_right _ hv) e⟩
    · rw [upd_same]; exact n2.1
  · rcases hs with rfl | rfl
    · rcases hs' with rfl | rfl
      · exact hne' rfl
      · rw [upd_ne _ _ hne, upd_same] at hu
        rw [upd_same] at hu'
        exact hFo u hu' hu
    · rcases hs' with rfl | rfl
      · rw [upd_same] at hu
        rw [upd_ne _ _ hne, upd_same] at hu'
        exact hFo u hu hu'
      · exact hne' rfl
  · rcases hs with rfl | rfl
    · rw [upd_ne _ _ hne, upd_same] at hn; exact absurd rfl (hn _)
    · rw [upd_same] at hn; exact absurd rfl (hn _)
  · rcases hs with rfl | rfl
    · rw [upd_ne _ _ hne, upd_same] at hR
      obtain rfl := Option.some.inj (Option.some.inj hR)
      refine ⟨csr, by rw [upd_ne _ _ hne]; exact hsr, ?_⟩
      rw [upd_ne _ _ hne, upd_same, ← shows_hdr hsr]
      have hzn : Rz w (cx.Sh (upd (upd Fp s (Fa ++ Fb)) r' Fo)) L.k' .ho [] (L.get e R.x) c := Rz_keep hK _ _ _ _ _ (by simp) (Rz_ho _ _ _ _ _ hc)
      simpa using (k4 w _ .ho mr [] (L.get e R.x) c hK (fun _ _ _ => rfl) k3 (mset_spec e p _ _ _ _ hms) hzn).1
    · rw [upd_same] at hR
      obtain rfl := Option.some.inj (Option.some.inj hR)
      exact ⟨c, by rw [upd_same]; exact hs, by rw [upd_same]; exact Rz_keep hK _ _ _ _ _ (fun _ _ => rfl) hc⟩
  · rcases hs with rfl | rfl
    · rw [hr, upd_ne _ _ hne, upd_same]
      exact .inr ⟨mr, _, _, rfl, upd_ne _ _ hne, .inr ⟨Nat.lt_succ_self _, fun _ _ => how, fun p' hp' => rfl⟩⟩
    · rw [hr']; trivial
  · unfold one at hi
    split at hi
    · rename_i h0; subst h0
      obtain rfl := Option.some.inj hi
      exact ⟨v, rfl, _, upd_same _ _ _, fun _ => (upd_same _ _ _).symm⟩
    · cases hi
end

section
variable {E : Type} {P : Program} {o : Oper} {s : Lst E} {gs : Gs}
def c_loadT (P : Program) (s : Lst E) (gs : Gs) (t : TypeId) (x : Operand) : Option (OR E) := match s.op gs x with
  | none => none
  | some en => match s.addr gs en with
    | some (.loc r hv p, c) => match s.root gs r with
      | none => none
      | some R => if liveS R hv p && R.m.isOw then match lens R.k R.m p with
        | none => none
        | some L => if tyOk P t L.k' && L.k'.isAgg then match mset R.k R.m p.sh .ho with
            | some mr => some ⟨andChk c (okChk R p L), [(0, .own s.nx)], [(s.nx, some ⟨L.k', L.m', 0, fun e => L.get e (R.x e)⟩), (r, some ⟨R.k, mr, R.hv + 1, fun e => L.put e (R.x e) (L.get e (R.x e))⟩)], 1⟩
            | none => none
          else none
        else none
    | _ => none

theorem snd_loadT {t : TypeId} {x : Operand} {r : OR E} (ho : o.op = .load t x) (h : c_loadT P s gs t x = some r) : Snd P o s gs r := by
  unfold c_loadT at h
  have mx : x ∈ o.op.operands := by simp [ho, Op.operands]
  split at h <;> try (cases h; done)
  rename_i en hen
  split at h <;> try (cases h; done)
  rename_i r0 hv p c hc
  split at h <;> try (cases h; done)
  rename_i R hR
  split at h <;> try (cases h; done)
  rename_i hlv
  rw [Bool.and_eq_true] at hlv
  split at h <;> try (cases h; done)
  rename_i L hL
  split at h <;> try (cases h; done)
  rename_i ht
  rw [Bool.and_eq_true] at ht
  split at h <;> try (cases h; done)
  rename_i mr hms
  obtain rfl := Option.some.inj h
  intro cx e g a w V Fp Q h1 hok hA hd hp
  have hx := Lst.op_esat hp hA h1 mx hen
  have hr := fun r => Lst.op_root hA mx hen (r := r)
  rw [OR.ok_holds] at hok
  obtain ⟨k1, k2⟩ := andChk_holds hok
  rw [evs_one, rtU_cons, rtU_cons, rtU_nil]
  have hrt : g.rt r0 = some (some (R.ev e)) := (hr r0 (Lst.addr_roots hc r0 (List.mem_singleton_self _))).trans (Lst.root_gr h1 hR)
  have how' : ∃ m1, (R.ev e).m = .ow m1 := by
    show ∃ m1, R.m = .ow m1
    have how := hlv.2
    cases hm : R.m <;> rw [hm] at how <;> first | exact ⟨_, rfl⟩ | cases how
  exact op_load_take (R := R.ev e) hp ho e (Lst.addr_esat hp h1 hc k1 hr hx) hrt how' (liveS_at hlv.1 e) hL (okChk_holds hL k2) ht.1 hms (by have := hA.new 0 (by simp); simpa using this) hd
/-- load of a value that is only looked at. -/
def c_loadV (P : Program) (s : Lst E) (gs : Gs) (t : TypeId) (x : Operand) : Option (OR E) := match s.op gs x with
  | none => none
  | some en => match s.addr gs en with
    | some (.loc r hv p, c) => match s.root gs r with
      | none => none
      | some R => if liveS R hv p then match lens R.k R.m p with
        | none => none
        | some L => if tyOk P t L.k' && L.k'.isAgg then some ⟨andChk c (okChk R p L), [(0, .view r R.hv L.k' p)], [], 0⟩
          else none
        else none
    | _ => none
theorem snd_loadV {t : TypeId} {x : Operand} {r : OR E} (ho : o.op = .load t x) (h : c_loadV P s gs t x = some r) : Snd P o s gs r := by
  unfold c_loadV at h
  have mx : x ∈ o.op.operands := by simp [ho, Op.operands]
  split at h <;> try (cases h; done)
  rename_i en hen
  split at h <;> try (cases h; done)
  rename_i r0 hv p c hc
  split at h <;> try (cases h; done)
  rename_i R hR
  split at h <;> try (cases h; done)
  rename_i hlv
  split at h <;> try (cases h; done)
  rename_i L hL
  split at h <;> try (cases h; done)
  rename_i ht
  rw [Bool.and_eq_true] at ht
  obtain rfl := Option.some.inj h
  intro cx e g a w V Fp Q h1 hok hA hd hp
  have hx := Lst.op_esat hp hA h1 mx hen
  have hr := fun r => Lst.op_root hA mx hen (r := r)
  rw [OR.ok_holds] at hok
  obtain ⟨k1, k2⟩ := andChk_holds hok
  rw [evs_one, rtU_nil]
  have hrt : g.rt r0 = some (some (R.ev e)) := (hr r0 (Lst.addr_roots hc r0 (List.mem_singleton_self _))).trans (Lst.root_gr h1 hR)
  have hokL : L.ok e (R.x e) = true := okChk_holds hL k2
  obtain ⟨b, o', q1, q2⟩ := (Lst.addr_esat hp h1 hc k1 hr hx).loc_at hrt (liveS_at hlv e) (by have := gok_lens e (lens_is _ _ _ _ hL) (R.x e); rw [hokL] at this; exact this.symm)
  obtain ⟨Fo, c', T, c1, c2, h3, h4, h5, h6, h7, h8⟩ := hole_cells (hp.hole (R := R.ev e) hrt e hL hokL) q2
  obtain ⟨v, hrun, hs⟩ := run_load_at ht.1 h8 (Rz_len _ _ _ _ _ _ _ h4) bare_size
  refine wp_val (v := v) (by simp only [execOp, ho, q1, Sem.run_bind, hrun, Result.andThen_ok]; rfl) (hp.pure hd ⟨_, hrt, fun R' hR' => ?_⟩)
  obtain rfl := Option.some.inj hR'
  exact ⟨Nat.le_refl _, fun _ _ => ⟨b, o', c', h5, q2, h8, hs, Rz_len _ _ _ _ _ _ _ h4⟩⟩

/-- vw: the value is only looked at. -/
def c_ld (P : Program) (s : Lst E) (gs : Gs) (vw : Bool) (t : TypeId) (x : Operand) : Option (OR E) := match c_load P s gs t x with
  | some r => some r
  | none => match vw with
    | true => c_loadV P s gs t x
    | false => c_loadT P s gs t x
theorem snd_ld {vw : Bool} {t : TypeId} {x : Operand} {r : OR E} (ho : o.op = .load t x) (h : c_ld P s gs vw t x = some r) : Snd P o s gs r := by
  unfold c_ld at h
  split at h
  · rename_i q hq
    obtain rfl := Option.some.inj h
    exact snd_load ho hq
  · split at h
    · exact snd_loadV ho h
    · exact snd_loadT ho h

/-! ### buildSlice of parts that own something -/
def c_partsO (s : Lst E) (gs : Gs) (k : Kt) (m : Mk) : List Operand → Option ((E → List k.T) × List Nat)
  | [] => some (fun _ => [], [])
  | x :: xs => match c_partsO s gs k m xs with
    | some (ys, ds) => match s.op gs x with
      | some (.own q) => if ds.contains q then none else match s.root gs q with
        | some R => if h : R.k = k then if R.m = m then some (fun e => (h ▸ R.x e) :: ys e, q :: ds) else none else none
        | none => none
      | _ => none
    | none => none
def firstM (s : Lst E) (gs : Gs) : List Operand → Option Mk
  | x :: _ => match s.op gs x with
    | some (.own q) => (s.root gs q).map (·.m)
    | _ => none
  | [] => none
theorem c_partsO_spec {k : Kt} {m : Mk} {cx : Cx} {g : G} {a : Act} {w : World} {V : Nat → Value} {Fp : Nat → List Nat} {e : E} {n : Nat} (hp : Pre cx g a w V Fp) (hA : Agree g s e (opTmps o) n) (h1 : s.on gs e = true) :
    ∀ (xs : List Operand) (ys : E → List k.T) (ds : List Nat), c_partsO s gs k m xs = some (ys, ds) → (∀ x ∈ xs, x ∈ o.op.operands) →
      (∀ q ∈ ds, ∃ R, g.rt q = some (some R)) ∧ ∃ F, RzL (Rz w (cx.Sh Fp) k m) F (ys e) ((xs.map a.eval).map fun v => v.cells.toList).flatten ∧ F.Nodup ∧ (∀ b ∈ F, ∃ q ∈ ds, b ∈ Fp q) ∧ (∀ c ∈ (xs.map a.eval).map (fun v => v.cells.toList), c.length = k.size) ∧ List.length (ys e) = xs.length
  | [], ys, ds, h, _ => by
    obtain ⟨rfl, rfl⟩ := Prod.mk.inj (Option.some.inj h)
    exact ⟨by simp, [], .nil, List.nodup_nil, by simp, by simp, rfl⟩
  | x :: xs, ys, ds, h, hm => by
    simp only [c_partsO] at h
    split at h <;> try (cases h; done)
    rename_i ys0 ds0 h0
    obtain ⟨i1, F, i2, i3, i4, i5, i6⟩ := c_partsO_spec hp hA h1 xs ys0 ds0 h0 fun x hx => hm x (List.mem_cons_of_mem _ hx)
    split at h <;> try (cases h; done)
    rename_i q hx
    split at h <;> try (cases h; done)
    rename_i hnc
    split at h <;> try (cases h; done)
    rename_i R hR
    split at h <;> try (cases h; done)
    rename_i hk
    split at h <;> try (cases h; done)
    rename_i hmm
    obtain ⟨rfl, rfl⟩ := Prod.mk.inj (Option.some.inj h)
    obtain ⟨Rk, Rm, Rhv, Rx⟩ := R
    have hk : Rk = k := hk
    subst hk
    have hmm : Rm = m := hmm
    subst hmm
    have mx := hm x (List.mem_cons_self ..)
    have hrt := (Lst.op_root hA mx hx (List.mem_singleton_self _)).trans (Lst.root_gr h1 hR)
    obtain ⟨R0, e1, e2⟩ := Lst.op_esat hp hA h1 mx hx
    rw [hrt] at e1
    obtain rfl := Option.some.inj e1
    have e2 : a.eval x = V q := e2 (by simp)
    obtain ⟨cq, z1, z2⟩ := hp.mem.roots q _ hrt
    have hcq := own_cells (rt := g.rt) (V := V) z1 z2
    rw [← hcq, ← e2] at z2
    refine ⟨fun q' hq' => ?_, Fp q ++ F, ?_, List.nodup_append.2 ⟨hp.mem.nodup q, i3, fun b hb c hc' e => ?_⟩, fun b hb => ?_, fun c hc' => ?_, by simp [i6]⟩
    · rcases List.mem_cons.1 hq' with rfl | hq'
      · exact ⟨_, hrt⟩
      · exact i1 q' hq'
    · have z2' : Rz w (cx.Sh Fp) Rk Rm (Fp q) (Rx e) (a.eval x).cells.toList := z2
      have := RzL.cons z2' i2
      simpa using this
    · subst e
      obtain ⟨q', h3, h4⟩ := i4 b hc'
      refine hp.mem.disj q q' (fun e => ?_) b hb h4
      subst e
      exact hnc (by simpa using h3)
    · rcases List.mem_append.1 hb with hb | hb
      · exact ⟨q, List.mem_cons_self .., hb⟩
      · obtain ⟨q', h3, h4⟩ := i4 b hb; exact ⟨q', List.mem_cons_of_mem _ h3, h4⟩
    · simp only [List.map_cons, List.mem_cons] at hc'
      rcases hc' with rfl | hc'
      · exact Rz_len _ _ _ _ _ _ _ z2
      · exact i5 c (by simpa using hc')

def c_buildSliceO (P : Program) (s : Lst E) (gs : Gs) (t : TypeId) (n : Nat) (parts : Array (Nat × Operand)) (k : Kt) : Option (OR E) := match elemOf' P t, firstM s gs (parts.toList.map (·.2)) with
  | some T, some m => if sliceOk P t T k && ((P.info? T).bind (·.zero)).isSome && partsOk parts && (n == parts.size) && decide (parts.size * (k.size + 1) ≤ 16777216) then
      match c_partsO s gs k m (parts.toList.map (·.2)) with
      | some (ys, ds) => some ⟨none, [(0, .own s.nx)], (s.nx, some ⟨.sl T k, .ow m, 0, ys⟩) :: deadL ds, 1⟩
      | none => none
    else none
  | _, _ => none
theorem snd_buildSliceO {t : TypeId} {n : Nat} {parts : Array (Nat × Operand)} {k : Kt} {r : OR E} (ho : o.op = .buildSlice t n parts) (h : c_buildSliceO P s gs t n parts k = some r) : Snd P o s gs r := by
  unfold c_buildSliceO at h
  split at h <;> try (cases h; done)
  rename_i T m hT hfm
  split at h <;> try (cases h; done)
  rename_i hc
  simp only [Bool.and_eq_true, beq_iff_eq, decide_eq_true_eq] at hc
  obtain ⟨⟨⟨⟨h1, h2⟩, h3⟩, h4⟩, h5⟩ := hc
  split at h <;> try (cases h; done)
  rename_i ys ds hys
  obtain rfl := Option.some.inj h
  intro cx e g a w V Fp Q hon hok hA hd hp
  generalize hxs : parts.toList.map (·.2) = xs at hys
  have hlx : xs.length = n := by rw [← hxs, h4]; simp
  obtain ⟨i1, F, i2, i3, i4, i5, i6⟩ := c_partsO_spec (o := o) hp hA hon xs ys ds hys fun x hx => by
    rw [← hxs] at hx
    simpa [ho, Op.operands] using hx
  have hrun := run_buildSlice' (P := P) h1 h2 (xs.map a.eval) i5 (by rw [List.length_map, hlx, h4]; rw [Nat.mul_add] at h5; omega) w
  rw [List.length_map] at hrun
  have he : (parts.map fun (i, x) => (i, a.eval x)) = (((xs.map a.eval).zipIdx 0).map fun x => (x.2, x.1)).toArray := by
    rw [partsOk_spec h3, hxs]
    apply Array.ext'
    simp [List.zipIdx_map]
  have hnr : g.rt s.nx = none := by have := hA.new 0 (by simp); simpa using this
  have hl := i2.len (Rz_len _ _ _ _)
  refine wp_val (v := .slice (some ⟨w.heap.size, 0, none⟩) xs.length xs.length) (w' := w.alloc (.cells ((xs.map a.eval).map fun v => v.cells.toList).flatten.toArray T)) ?_ ?_
  · simp only [execOp, ho]
    rw [he, ← hlx]
    simp [hrun]
  · rw [evs_one, ← gather_ru (V := V) (F' := w.heap.size :: F) (v := .slice (some ⟨w.heap.size, 0, none⟩) xs.length xs.length)]
    refine hp.gather (k := .sl T k) (m := .ow m) (x := ys e) (v := .slice (some ⟨w.heap.size, 0, none⟩) xs.length xs.length) (w' := w.alloc (.cells ((xs.map a.eval).map fun v => v.cells.toList).flatten.toArray T)) i1 hnr (F1 := []) rfl rfl rfl (by simp) (fun b hb _ => RowKit.Below.heap_alloc _ _ _ hb) (by simp) (Fall := F) (by simp) i4 (fun b hb => ?_) (List.nodup_cons.2 ⟨fun hb => ?_, i3⟩) (cs := [.slice (some ⟨w.heap.size, 0, none⟩) xs.length xs.length]) (by simp [Shows, Kt.isAgg]) (fun Sh' hK => ?_) hd
    · rcases List.mem_cons.1 hb with rfl | hb
      · exact .inr (Nat.le_refl _)
      · exact .inl hb
    · obtain ⟨q, _, hq⟩ := i4 _ hb
      have := hp.mem.lt hq
      omega
    · refine .inr ⟨w.heap.size, xs.length, _, F, by rw [i6], rfl, heap_alloc_new' _ _, ?_, by rw [i6]; rw [Nat.mul_add] at h5; exact ⟨Nat.le_refl _, by rw [hlx, h4]; omega⟩, ?_⟩
      · simp only [List.size_toArray]
        rw [hl, i6]
      · have : List.take (List.length (ys e) * k.size) (List.map (fun v => v.cells.toList) (List.map a.eval xs)).flatten = (List.map (fun v => v.cells.toList) (List.map a.eval xs)).flatten := List.take_of_length_le (by rw [hl]; exact Nat.le_refl _)
        simp only [this]
        have hK2 : Kp w (cx.Sh Fp) (w.alloc (.cells ((xs.map a.eval).map fun v => v.cells.toList).flatten.toArray T)) Sh' := ⟨hK.size, fun b hb hlt => hK.sh b (.inl hb) hlt⟩
        exact i2.imp fun F' x c hF hr => Rz_keep hK2 _ _ _ _ _ (fun b hb => RowKit.Below.heap_alloc _ _ _ (by
          obtain ⟨q, _, hq⟩ := i4 b (hF b hb)
          exact hp.mem.lt hq)) hr
def c_bsl (P : Program) (s : Lst E) (gs : Gs) (t : TypeId) (n : Nat) (parts : Array (Nat × Operand)) (k : Kt) : Option (OR E) := match c_buildSlice P s gs t n parts k with
  | some r => some r
  | none => c_buildSliceO P s gs t n parts k
theorem snd_bsl {t : TypeId} {n : Nat} {parts : Array (Nat × Operand)} {k : Kt} {r : OR E} (ho : o.op = .buildSlice t n parts) (h : c_bsl P s gs t n parts k = some r) : Snd P o s gs r := by
  unfold c_bsl at h
  split at h
  · rename_i q hq
    obtain rfl := Option.some.inj h
    exact snd_buildSlice ho hq
  · exact snd_buildSliceO ho h
def c_app2 (P : Program) (s : Lst E) (gs : Gs) (t t2 : TypeId) (x y : Operand) (kn : Option (TypeId × Kt)) : Option (OR E) := match c_app P s gs t t2 x y kn with
  | some r => some r
  | none => c_appendG P s gs t t2 x y kn
theorem snd_app2 {t t2 : TypeId} {x y : Operand} {kn : Option (TypeId × Kt)} {r : OR E} (ho : o.op = .call { callee := .builtin .append, args := #[x, y], argTypes := #[t, t2] }) (h : c_app2 P s gs t t2 x y kn = some r) : Snd P o s gs r := by
  unfold c_app2 at h
  split at h
  · rename_i q hq
    obtain rfl := Option.some.inj h
    exact snd_app ho hq
  · exact snd_appendG ho h
end
end Go.Lift

namespace Go.Lift
set_option linter.unusedVariables false
set_option linter.unusedSimpArgs false

section
variable {E : Type} {P : Program} {o : Oper} {s : Lst E} {gs : Gs}

/-! ### nilCheck -/
def c_nilA (P : Program) (s : Lst E) (gs : Gs) (en : Ent E) : Option (OR E) := match s.addr gs en with
  | some (.place _ _, c) => some ⟨c, [(0, en)], [], 0⟩
  | some (.loc r hv p, c) => match s.root gs r with
    | none => none
    | some R => if liveS R hv p then match lens R.k R.m p with
      | none => none
      | some L => some ⟨andChk c (okChk R p L), [(0, en)], [], 0⟩
      else none
  | _ => none
def c_nil (P : Program) (s : Lst E) (gs : Gs) (x : Operand) : Option (OR E) := match s.op gs x with
  | none => none
  | some en => match en with
    | .val (.fn f k) y => some (cVal (.val (.fn f k) y))
    | .own r => match s.root gs r with
      | some ⟨.bld _ _, .ow _, _, _⟩ => some (cVal (.own r))
      | _ => c_nilA P s gs (.own r)
    | _ => c_nilA P s gs en

theorem run_nil_ptr {o : Oper} {x : Operand} (ho : o.op = .nilCheck x) {ρ : Operand → Value} {a : Addr} (h : ρ x = .pointer (some a)) (w : World) : (execOp ρ o).run P w = .ok (.value (ρ x)) w := by
  simp [execOp, ho, h]

theorem snd_nilA {x : Operand} {en : Ent E} {r : OR E} (ho : o.op = .nilCheck x) (hen : s.op gs x = some en) (h : c_nilA P s gs en = some r) : Snd P o s gs r := by
  unfold c_nilA at h
  have mx : x ∈ o.op.operands := by simp [ho, Op.operands]
  split at h <;> try (cases h; done)
  · rename_i k y c hc
    obtain rfl := Option.some.inj h
    refine Snd.value fun cx e g a w V Fp h1 hok hA hp => ?_
    have hx := Lst.op_esat hp hA h1 mx hen
    have hr := fun r => Lst.op_root hA mx hen (r := r)
    rw [OR.ok_holds] at hok
    obtain ⟨b, o', cc, hv, _⟩ := Lst.addr_esat hp h1 hc hok hr hx
    exact ⟨a.eval x, run_nil_ptr ho hv w, hx⟩
  · rename_i r0 hv p c hc
    split at h <;> try (cases h; done)
    rename_i R hR
    split at h <;> try (cases h; done)
    rename_i hlv
    split at h <;> try (cases h; done)
    rename_i L hL
    obtain rfl := Option.some.inj h
    refine Snd.value fun cx e g a w V Fp h1 hok hA hp => ?_
    have hx := Lst.op_esat hp hA h1 mx hen
    have hr := fun r => Lst.op_root hA mx hen (r := r)
    rw [OR.ok_holds] at hok
    obtain ⟨k1, k2⟩ := andChk_holds hok
    have hrt : g.rt r0 = some (some (R.ev e)) := (hr r0 (Lst.addr_roots hc r0 (List.mem_singleton_self _))).trans (Lst.root_gr h1 hR)
    have hokL : L.ok e (R.x e) = true := okChk_holds hL k2
    obtain ⟨b, o', q1, q2⟩ := (Lst.addr_esat hp h1 hc k1 hr hx).loc_at hrt (liveS_at hlv e) (by have := gok_lens e (lens_is _ _ _ _ hL) (R.x e); rw [hokL] at this; exact this.symm)
    exact ⟨a.eval x, run_nil_ptr ho q1 w, hx⟩
theorem snd_nil {x : Operand} {r : OR E} (ho : o.op = .nilCheck x) (h : c_nil P s gs x = some r) : Snd P o s gs r := by
  unfold c_nil at h
  have mx : x ∈ o.op.operands := by simp [ho, Op.operands]
  split at h <;> try (cases h; done)
  rename_i en hen
  split at h
  · rename_i f k y
    obtain rfl := Option.some.inj h
    refine Snd.value fun cx e g a w V Fp h1 hok hA hp => ?_
    have hx := Lst.op_esat hp hA h1 mx hen
    obtain ⟨cs, hs, _, hz⟩ := hx
    obtain ⟨_, vs, cc, h2, _⟩ := hz.resolve_left fun h => by cases h.1
    have hs' : cs = [a.eval x] := hs
    rw [hs'] at h2
    refine ⟨a.eval x, ?_, Lst.op_esat hp hA h1 mx hen⟩
    have := (List.cons.inj h2).1
    simp [execOp, ho, this]
  · rename_i r0
    split at h
    · rename_i T e0 m hv y hR
      obtain rfl := Option.some.inj h
      refine Snd.value fun cx e g a w V Fp h1 hok hA hp => ?_
      have hx := Lst.op_esat hp hA h1 mx hen
      have hrt := (Lst.op_root hA mx hen (List.mem_singleton_self _)).trans (Lst.root_gr h1 hR)
      obtain ⟨R0, e1, e2⟩ := hx
      rw [hrt] at e1
      obtain rfl := Option.some.inj e1
      have e2 : a.eval x = V r0 := e2 (by simp)
      obtain ⟨cs, z1, z2⟩ := hp.mem.roots r0 _ hrt
      obtain ⟨g', p, v, Fb, z3, _⟩ := z2
      have z1 : cs = [V r0] := z1
      rw [z1] at z3
      have := (List.cons.inj z3).1
      exact ⟨a.eval x, run_nil_ptr ho (e2.trans this) w, Lst.op_esat hp hA h1 mx hen⟩
    · exact snd_nilA ho hen h
  · exact snd_nilA ho hen h

/-! ### a strings.Builder of one's own -/
/-- T lies like strings.Builder: the type of its bytes. -/
def bldOf (P : Program) (T : TypeId) : Option TypeId := match P.underlying T with
  | some (.struct fs) => match fs.toList with
    | [f1, f2] => match P.underlying f1.type, P.underlying f2.type with
      | some (.pointer T'), some (.slice e) => if T' = T then match P.underlying e with
        | some (.int .u8) => some e
        | _ => none
        else none
      | _, _ => none
    | _ => none
  | _ => none
def zeroB (P : Program) (T : TypeId) : Bool := match (P.info? T).bind (·.zero) with
  | some z => match z.cells.toList with
    | [.pointer none, .slice none 0 0] => true
    | _ => false
  | none => false
theorem zeroB_spec {T : TypeId} (h : zeroB P T = true) : ∃ i z, P.info? T = some i ∧ i.zero = some z ∧ z.cells = #[.pointer none, .slice none 0 0] := by
  unfold zeroB at h
  split at h
  · rename_i z hz
    obtain ⟨i, h1, h2⟩ := Option.bind_eq_some_iff.1 hz
    refine ⟨i, z, h1, h2, ?_⟩
    split at h
    · rename_i hc
      exact Array.toList_inj.1 hc
    · cases h
  · cases h
def c_allocB (P : Program) (s : Lst E) (T e : TypeId) : Option (OR E) := if zeroB P T then some ⟨none, [(0, .own s.nx)], [(s.nx, some ⟨.bld T e, .ow .sh, 0, fun _ => ByteArray.empty⟩)], 1⟩ else none
theorem snd_allocB {T e : TypeId} {r : OR E} (ho : o.op = .alloc T) (h : c_allocB P s T e = some r) : Snd P o s gs r := by
  unfold c_allocB at h
  split at h <;> try (cases h; done)
  rename_i hz
  obtain rfl := Option.some.inj h
  intro cx en g a w V Fp Q h1 hok hA hd hp
  rw [evs_one, rtU_cons, rtU_nil]
  obtain ⟨i, z, h1, h2, h4⟩ := zeroB_spec hz
  have hr : g.rt s.nx = none := by have := hA.new 0 (by simp); simpa using this
  refine wp_val (v := .pointer (some ⟨w.heap.size, 0, none⟩)) (w' := w.alloc (.cells #[.pointer none, .slice none 0 0] T)) (by simp [execOp, ho, Instr.alloc, zeroValue, typeInfo, h1, h2, newVar, newRow, h4]) ?_
  refine hp.fresh hr (v := .pointer (some ⟨w.heap.size, 0, none⟩)) (w' := w.alloc (.cells #[.pointer none, .slice none 0 0] T)) (k := .bld T e) (m := .ow .sh) (x := ByteArray.empty) (F := [w.heap.size]) (cs := [.pointer (some ⟨w.heap.size, 0, none⟩)]) rfl rfl rfl (by simp) (fun b hb => RowKit.Below.heap_alloc _ _ _ hb) (by simp) (by simp) rfl (fun Sh' hK => ?_) hd
  exact ⟨w.heap.size, .pointer none, .slice none 0 0, [], rfl, rfl, heap_alloc_new' _ _, .inl rfl, .inl ⟨rfl, rfl, rfl⟩⟩

/-! ### build: an array's value -/
def c_buildA (P : Program) (s : Lst E) (gs : Gs) (t : TypeId) (n : Nat) (k : Kt) (parts : Array (Nat × Operand)) : Option (OR E) := match P.underlying t with
  | some (.array n' e) => match P.info? e with
    | some ie => if n' = n ∧ ie.size = k.size ∧ parts.size = n ∧ zeroOk P t (.arr n k) = true ∧ partsOk parts = true then match c_parts s gs k (parts.toList.map (·.2)) with
      | some ys => some (cVal (.val (.arr n k) ys))
      | none => none
      else none
    | none => none
  | _ => none
theorem snd_buildA {t : TypeId} {n : Nat} {k : Kt} {parts : Array (Nat × Operand)} {r : OR E} (ho : o.op = .build t parts) (h : c_buildA P s gs t n k parts = some r) : Snd P o s gs r := by
  unfold c_buildA at h
  split at h <;> try (cases h; done)
  rename_i n' e hu
  split at h <;> try (cases h; done)
  rename_i ie hie
  split at h <;> try (cases h; done)
  rename_i hc
  obtain ⟨rfl, hsz, hn, hz, hpo⟩ := hc
  split at h <;> try (cases h; done)
  rename_i ys hys
  obtain rfl := Option.some.inj h
  refine Snd.value fun cx en g a w V Fp h1 hok hA hp => ?_
  have hl := c_parts_spec (o := o) hp hA h1 _ _ hys fun x hx => by simpa [ho, Op.operands] using hx
  obtain ⟨i, z, zc, q1, q2, q3, q4⟩ := zeroOk_spec hz
  have hzl := Rz_len w (fun _ => True) _ _ _ _ _ (Rz_zero w (fun _ => True) _ _ q3)
  have hf := fill_cat (s := k.size) ((parts.toList.map (·.2)).map a.eval) _ 0 [] zc rfl hl.size (by simp) (by rw [hzl]; simp [Kt.size, hn])
  have he : (parts.map fun (i, x) => (i, a.eval x)) = ((((parts.toList.map (·.2)).map a.eval).zipIdx 0).map fun x => (x.2, x.1)).toArray := by
    conv => lhs; rw [partsOk_spec hpo]
    apply Array.ext'
    simp [List.zipIdx_map]
  have hrun : (Instr.build t (parts.map fun (i, x) => (i, a.eval x))).run P w = .ok (.agg (((parts.toList.map (·.2)).map a.eval).map fun v => v.cells.toList).flatten.toArray) w := by
    refine run_build w t _ _ ?_
    unfold Program.built
    simp only [q1, hu, q2, hie, hsz, q4]
    rw [he]
    simpa using hf
  refine ⟨.agg (((parts.toList.map (·.2)).map a.eval).map fun v => v.cells.toList).flatten.toArray, by simp only [execOp, ho]; simp [hrun], _, ?_, ?_, hl.rz⟩
  · show Value.agg _ = Value.agg _
    rfl
  · rw [hl.len]; simp [hn]
def c_build2 (P : Program) (s : Lst E) (gs : Gs) (t : TypeId) (k : Kt) (parts : Array (Nat × Operand)) : Option (OR E) := match k with
  | .arr n e => c_buildA P s gs t n e parts
  | _ => c_build P s gs t k parts
theorem snd_build2 {t : TypeId} {k : Kt} {parts : Array (Nat × Operand)} {r : OR E} (ho : o.op = .build t parts) (h : c_build2 P s gs t k parts = some r) : Snd P o s gs r := by
  unfold c_build2 at h
  split at h
  · exact snd_buildA ho h
  · exact snd_build ho h

/-! ### functions as values -/
def c_env (s : Lst E) (gs : Gs) : List Operand → Option ((k : Kt) × (E → k.T))
  | [] => some ⟨.unit, fun _ => ()⟩
  | x :: xs => match s.op gs x, c_env s gs xs with
    | some (.val k y), some ⟨k', z⟩ => some ⟨.pair k k', fun e => (y e, z e)⟩
    | _, _ => none
def c_mkfn (s : Lst E) (gs : Gs) (f : FuncId) (xs : List Operand) : Option (OR E) := match c_env s gs xs with
  | some ⟨k, y⟩ => some (cVal (.val (.fn f k) y))
  | none => none
theorem c_env_spec {cx : Cx} {g : G} {a : Act} {w : World} {V : Nat → Value} {Fp : Nat → List Nat} {e : E} {n : Nat} (hp : Pre cx g a w V Fp) (hA : Agree g s e (opTmps o) n) (h1 : s.on gs e = true) :
    ∀ (xs : List Operand) (k : Kt) (y : E → k.T), c_env s gs xs = some ⟨k, y⟩ → (∀ x ∈ xs, x ∈ o.op.operands) → ∃ cc, ShL k (xs.map a.eval) cc ∧ Rz w (cx.Sh Fp) k .sh [] (y e) cc
  | [], k, y, h, _ => by
    obtain ⟨rfl, h⟩ := Sigma.mk.inj (Option.some.inj h)
    exact ⟨[], ⟨rfl, rfl⟩, rfl, rfl⟩
  | x :: xs, k, y, h, hm => by
    simp only [c_env] at h
    split at h <;> try (cases h; done)
    rename_i k1 y1 k2 z hx hz
    obtain ⟨rfl, h⟩ := Sigma.mk.inj (Option.some.inj h)
    obtain rfl := eq_of_heq h
    obtain ⟨c2, i1, i2⟩ := c_env_spec hp hA h1 xs k2 z hz fun x hx => hm x (List.mem_cons_of_mem _ hx)
    obtain ⟨c1, j1, j2⟩ := Lst.op_esat hp hA h1 (hm x (List.mem_cons_self ..)) hx
    exact ⟨c1 ++ c2, ⟨_, _, c1, c2, rfl, rfl, Rz_len _ _ _ _ _ _ _ j2, j1, i1⟩, [], [], c1, c2, rfl, rfl, j2, i2⟩
theorem snd_mkfn {f : FuncId} {xs : List Operand} {r : OR E} (ho : o.op = .makeFunc (.func f) #[] xs.toArray) (h : c_mkfn s gs f xs = some r) : Snd P o s gs r := by
  unfold c_mkfn at h
  split at h <;> try (cases h; done)
  rename_i k y hy
  obtain rfl := Option.some.inj h
  refine Snd.value fun cx e g a w V Fp h1 hok hA hp => ?_
  obtain ⟨cc, i1, i2⟩ := c_env_spec (o := o) hp hA h1 xs k y hy fun x hx => by simp [ho, Op.operands, hx]
  refine ⟨.func (.func f) #[] (xs.map a.eval).toArray, ?_, [.func (.func f) #[] (xs.map a.eval).toArray], rfl, rfl, .inr ⟨by simp, _, cc, rfl, i1, i2⟩⟩
  simp [execOp, ho, Instr.makeFunc]

/-! ### a call of a function value -/
def envL : Kt → List (Kt × PM)
  | .pair a b => (a, .val) :: envL b
  | _ => []
def envD : (k : Kt) → k.T → HL ((envL k).map (·.1))
  | .pair _ b, x => (x.1, envD b x.2)
  | .unit, _ => ()
  | .int _, _ => ()
  | .bool, _ => ()
  | .str, _ => ()
  | .arr _ _, _ => ()
  | .sl _ _, _ => ()
  | .ptr _ _, _ => ()
  | .unk, _ => ()
  | .fn _ _, _ => ()
  | .bld _ _, _ => ()
  | .ifc _ _, _ => ()
  | .fnv, _ => ()
  | .map _ _, _ => ()
  | .win _, _ => ()
  | .opt _ _, _ => ()
def happ : (p1 p2 : List (Kt × PM)) → HL (p1.map (·.1)) → HL (p2.map (·.1)) → HL ((p1 ++ p2).map (·.1))
  | [], _, _, d2 => d2
  | _ :: p1, p2, d1, d2 => (d1.1, happ p1 p2 d1.2 d2)
def castH {p p' : List (Kt × PM)} (h : p = p') (d : HL (p'.map (·.1))) : HL (p.map (·.1)) := h ▸ d

theorem ArgsR_app {w : World} {S : Nat → Prop} : ∀ (p1 p2 : List (Kt × PM)) (d1 : HL (p1.map (·.1))) (d2 : HL (p2.map (·.1))) (v1 v2 : List Value) (F : List Nat), ArgsR w S p1 d1 v1 F → ArgsR w S p2 d2 v2 [] → ArgsR w S (p1 ++ p2) (happ p1 p2 d1 d2) (v1 ++ v2) F
  | [], p2, d1, d2, v1, v2, F, h1, h2 => by
    obtain ⟨rfl, rfl⟩ := h1
    exact h2
  | (k, .val) :: p1, p2, d1, d2, v1, v2, F, h1, h2 => by
    obtain ⟨v, vs', rfl, h3, h4⟩ := h1
    exact ⟨v, vs' ++ v2, rfl, h3, ArgsR_app p1 p2 _ _ _ _ _ h4 h2⟩
  | (k, .mut m) :: p1, p2, d1, d2, v1, v2, F, h1, h2 => by
    obtain ⟨v, vs', F1, F2, rfl, rfl, h3, h4⟩ := h1
    exact ⟨v, vs' ++ v2, F1, F2, rfl, rfl, h3, ArgsR_app p1 p2 _ _ _ _ _ h4 h2⟩
  | (k, .tak m) :: p1, p2, d1, d2, v1, v2, F, h1, h2 => by
    obtain ⟨v, vs', F1, F2, rfl, rfl, h3, h4⟩ := h1
    exact ⟨v, vs' ++ v2, F1, F2, rfl, rfl, h3, ArgsR_app p1 p2 _ _ _ _ _ h4 h2⟩
theorem ArgsR_env {w : World} {S : Nat → Prop} : ∀ (k : Kt) (x : k.T) (vs cc : List Value), ShL k vs cc → Rz w S k .sh [] x cc → ArgsR w S (envL k) (envD k x) vs []
  | .unit, x, vs, cc, h, _ => ⟨h.1, rfl⟩
  | .pair a b, x, vs, cc, h, hz => by
    obtain ⟨v, vs', c1, c2, rfl, rfl, hl, hs, h⟩ := h
    obtain ⟨F1, F2, d1, d2, hF, hcd, z1, z2⟩ := hz
    obtain ⟨rfl, rfl⟩ := List.append_eq_nil_iff.1 hF.symm
    obtain ⟨rfl, rfl⟩ := List.append_inj hcd (hl.trans (Rz_len _ _ _ _ _ _ _ z1).symm)
    exact ⟨v, vs', rfl, ⟨c1, hs, z1⟩, ArgsR_env b _ _ _ h z2⟩
  | .int _, x, vs, cc, h, _ => h.elim
  | .bool, x, vs, cc, h, _ => h.elim
  | .str, x, vs, cc, h, _ => h.elim
  | .arr _ _, x, vs, cc, h, _ => h.elim
  | .sl _ _, x, vs, cc, h, _ => h.elim
  | .ptr _ _, x, vs, cc, h, _ => h.elim
  | .unk, x, vs, cc, h, _ => h.elim
  | .fn _ _, x, vs, cc, h, _ => h.elim
  | .bld _ _, x, vs, cc, h, _ => h.elim
  | .ifc _ _, x, vs, cc, h, _ => h.elim
  | .fnv, x, vs, cc, h, _ => h.elim
  | .map _ _, x, vs, cc, h, _ => h.elim
  | .win _, x, vs, cc, h, _ => h.elim
  | .opt _ _, x, vs, cc, h, _ => h.elim
theorem MutI_env {g : G} {V : Nat → Value} : ∀ (k : Kt) (vs cc : List Value), ShL k vs cc → MutI g V (envL k) vs []
  | .unit, vs, cc, h => by rw [h.1]; exact .nil
  | .pair a b, vs, cc, h => by
    obtain ⟨v, vs', c1, c2, rfl, rfl, hl, hs, h⟩ := h
    exact .val (MutI_env b _ _ h)
  | .int _, vs, cc, h => h.elim
  | .bool, vs, cc, h => h.elim
  | .str, vs, cc, h => h.elim
  | .arr _ _, vs, cc, h => h.elim
  | .sl _ _, vs, cc, h => h.elim
  | .ptr _ _, vs, cc, h => h.elim
  | .unk, vs, cc, h => h.elim
  | .fn _ _, vs, cc, h => h.elim
  | .bld _ _, vs, cc, h => h.elim
  | .ifc _ _, vs, cc, h => h.elim
  | .fnv, vs, cc, h => h.elim
  | .map _ _, vs, cc, h => h.elim
  | .win _, vs, cc, h => h.elim
  | .opt _ _, vs, cc, h => h.elim
theorem MutI_app {g : G} {V : Nat → Value} {p1 p2 : List (Kt × PM)} {v1 v2 : List Value} {ms : List Nat} (h1 : MutI g V p1 v1 ms) (h2 : MutI g V p2 v2 []) : MutI g V (p1 ++ p2) (v1 ++ v2) ms := by
  induction h1 with
  | nil => exact h2
  | val t ih => exact .val ih
  | tak t ih => exact .tak ih
  | «mut» hr hm hv t ih => exact .mut hr hm hv ih

def c_callE (P : Program) (s : Lst E) (gs : Gs) (f : FuncId) (sp : Spec) (xs : List Operand) (env : Kt) (y : E → env.T) : Option (OC E) :=
  if h : sp.sig.ps = sp.sig.ps.take xs.length ++ envL env then match c_args s gs (sp.sig.ps.take xs.length) xs with
    | none => none
    | some A => if callOk P f && nodupB A.os && disjB A.os A.bs && A.os.all (fun r => A.ms.contains r || A.ts.contains r) && (A.bs.isEmpty || tightSig sp.sig) then
        let q := c_res (E' := E × (HL (sp.sig.rs.map (·.1)) × HL ((mutsOf sp.sig.ps).map (·.1)))) sp.sig.rs (if sp.sig.rs.length = 1 then 0 else 1) s.nx fun e => e.2.1
        some ⟨_, fun k e => sp.den k (castH h (happ _ _ (A.d e) (envD env (y e)))), (HL.dflt _, HL.dflt _), q.1, (q.2 ++ c_mut s gs sp.sig.ps A.ms fun e => e.2.2) ++ A.ts.map fun r => (r, none), ownCount sp.sig.rs⟩
      else none
  else none
def c_callv (P : Program) (tab : List (FuncId × Spec)) (s : Lst E) (gs : Gs) (t : Tmp) (xs : List Operand) : Option (OC E) := match s.op gs (.tmp t) with
  | some (.val (.fn f env) y) => tryT f (fun sp => c_callE P s gs f sp xs env y) tab
  | _ => none
theorem castArgs {w : World} {S : Nat → Prop} {p p' : List (Kt × PM)} (h : p = p') {d : HL (p'.map (·.1))} {vs : List Value} {F : List Nat} (ha : ArgsR w S p' d vs F) : ArgsR w S p (castH h d) vs F := by
  subst h; exact ha
theorem castMut {g : G} {V : Nat → Value} {p p' : List (Kt × PM)} (h : p = p') {vs : List Value} {ms : List Nat} (ha : MutI g V p' vs ms) : MutI g V p vs ms := by
  subst h; exact ha
theorem snd_callv {Gl : World → Prop} {tab : List (FuncId × Spec)} (htab : ∀ f sp, (f, sp) ∈ tab → FnOk P Gl f sp) {t : Tmp} {xs : List Operand} {ta : Array TypeId} {r : OC E} (ho : o.op = .call { callee := .value (.tmp t), args := xs.toArray, argTypes := ta }) (h : c_callv P tab s gs t xs = some r) : SndC P Gl o s gs r := by
  unfold c_callv at h
  split at h <;> try (cases h; done)
  rename_i f env y hy
  obtain ⟨sp, hsp, h⟩ := tryT_spec h
  unfold c_callE at h
  split at h <;> try (cases h; done)
  rename_i hps
  split at h <;> try (cases h; done)
  rename_i A hA0
  split at h <;> try (cases h; done)
  rename_i hc
  simp only [Bool.and_eq_true] at hc
  obtain ⟨⟨⟨⟨hc1, hc2⟩, hc3⟩, hc5⟩, hc4⟩ := hc
  obtain rfl := Option.some.inj h
  intro cx k e x g a w V Fp Q hGl hon hden hA hd hp
  have mt : Operand.tmp t ∈ o.op.operands := by simp [ho, Op.operands, Call.operands]
  have hm : ∀ y ∈ xs, y ∈ o.op.operands := by intro y hy; simp [ho, Op.operands, Call.operands, hy]
  obtain ⟨hargs, hmuti⟩ := c_args_spec hp hA hon A.bs _ xs A hA0 hm (fun r h => h)
  have hroots : ∀ r ∈ A.ms, ∃ R, s.root gs r = some R ∧ g.rt r = some (some (R.ev e)) := by
    intro r hr
    obtain ⟨y, R, h1, h2, h3⟩ := c_args_ms hA0 r hr
    exact ⟨R, h3, (Lst.op_root hA (hm y h1) h2 (List.mem_singleton_self _)).trans (Lst.root_gr hon h3)⟩
  obtain ⟨cs, hs, _, hz⟩ := Lst.op_esat hp hA hon mt hy
  obtain ⟨_, vs, cc, h2, h3, h4⟩ := hz.resolve_left fun h => by cases h.1
  have hs' : cs = [a.eval (.tmp t)] := hs
  rw [hs'] at h2
  have hval := (List.cons.inj h2).1
  have hrun : (execOp a.eval o).run P w = .ok (.enter f (xs.map a.eval ++ vs).toArray) w := by
    unfold callOk at hc1
    split at hc1 <;> try (cases hc1; done)
    rename_i fn hfn
    simp only [Bool.and_eq_true, Bool.not_eq_true'] at hc1
    have n1 : fn.name ≠ "runtime.NumGoroutine" := by simpa using hc1.1
    have n2 : fn.body ≠ none := by intro h0; rw [h0] at hc1; cases hc1.2
    simp [execOp, ho, resolve, hval, Deferred.ofValue, invoke, callFunc, hfn, n1, n2]
  refine call_core (htab f sp hsp) hGl hden hp hd (castArgs hps (ArgsR_app _ _ _ _ _ _ _ hargs (ArgsR_env env _ _ _ h3 (Rz_keep kp_borrow _ _ _ _ _ (by intro b hb; cases hb) h4)))) ?_ hc2 hc3 hc5 hc4 hA.new hroots hrun
  exact castMut hps (MutI_app hmuti (MutI_env env _ _ h3))
end
end Go.Lift

namespace Go.Lift
set_option linter.unusedVariables false
set_option linter.unusedSimpArgs false

/-! ### structs that are compared -/
mutual
def eqK (P : Program) : Nat → TypeId → Kt → Bool
  | 0, _, _ => false
  | n + 1, t, k => match P.underlying t, k with
    | some (.int _), .int _ => true
    | some .bool, .bool => true
    | some .string, .str => true
    | some (.array m e), .arr m' a => decide (m = m') && (P.info? e).isSome && decide (P.cellsOf e = a.size) && tyOk P e a && eqK P n e a
    | some (.struct fs), k => !P.stoodInHeld t && k.isAgg && eqFs P n fs.toList 0 k
    | _, _ => false
def eqFs (P : Program) : Nat → List Field → Nat → Kt → Bool
  | 0, _, _, _ => false
  | _ + 1, [], _, .unit => true
  | n + 1, f :: fs, off, .pair a b => decide (f.name ≠ "_") && (f.offset == off) && tyOk P f.type a && eqK P n f.type a && eqFs P n fs (off + a.size) b
  | _, _, _, _ => false
end
def allEq {α : Type} (f : α → α → Bool) : List α → List α → Bool
  | x :: xs, y :: ys => f x y && allEq f xs ys
  | [], [] => true
  | _, _ => false
def keq : (k : Kt) → k.T → k.T → Bool
  | .int _, x, y => (x : Int) == (y : Int)
  | .bool, x, y => (x : Bool) == (y : Bool)
  | .str, x, y => ByteArray.toList x == ByteArray.toList y
  | .pair a b, x, y => keq a x.1 y.1 && keq b x.2 y.2
  | .unit, _, _ => true
  | .arr _ e, x, y => allEq (keq e) x y
  | .sl _ _, _, _ => false
  | .ptr _ _, _, _ => false
  | .unk, _, _ => false
  | .fn _ _, _, _ => false
  | .bld _ _, _, _ => false
  | .ifc _ _, _, _ => false
  | .fnv, _, _ => false
  | .map _ _, _, _ => false
  | .win _, _, _ => false
  | .opt _ _, _, _ => false

section
variable {P : Program}
theorem run_partK {t : TypeId} {k : Kt} (ht : tyOk P t k = true) {pre c post : List Value} {off : Nat} (hp : pre.length = off) (hc : c.length = k.size) {v : Value} (hs : Shows k v c) (w : World) : (Go.part t (pre ++ (c ++ post)).toArray off).run P w = .ok v w := by
  unfold Go.part
  simp only [Sem.run_bind, run_isAgg ht, Result.andThen_ok]
  unfold Shows at hs
  cases hk : k.isAgg with
  | true =>
    rw [if_pos hk] at hs
    subst hs
    simp only [if_true, Sem.run_bind, run_sizeOf' ht, Result.andThen_ok, Sem.run_pure]
    congr 2
    apply Array.ext'
    subst hp
    simp [hc.symm]
  | false =>
    rw [if_neg (by rw [hk]; simp)] at hs
    subst hs
    subst hp
    simp

theorem agg_sh (k : Kt) (c : List Value) (hc : c.length = k.size) : ∃ v, Shows k v c := by
  unfold Shows
  cases ha : k.isAgg with
  | true => exact ⟨_, by rw [if_pos rfl]⟩
  | false =>
    have : k.size = 1 := bare_size ha
    match c, (hc.trans this) with
    | [v], _ => exact ⟨v, by simp⟩
theorem run_eqItems (w : World) (S : Nat → Prop) {d : Nat} {e : TypeId} {k : Kt} (ht : tyOk P e k = true) (ih : ∀ (x y : k.T) (u v : Value) (cs ds : List Value), Shows k u cs → Shows k v ds → Rz w S k .sh [] x cs → Rz w S k .sh [] y ds → (Op.equalIn d e u v).run P w = .ok (keq k x y) w) :
    ∀ (xs ys : List k.T) (j : Nat) (p1 p2 cs ds : List Value), xs.length = ys.length → p1.length = j * k.size → p2.length = j * k.size → RzL (Rz w S k .sh) [] xs cs → RzL (Rz w S k .sh) [] ys ds → (Op.eqItems d e k.size (p1 ++ cs).toArray (p2 ++ ds).toArray (List.range' j xs.length)).run P w = .ok (allEq (keq k) xs ys) w
  | [], [], j, p1, p2, cs, ds, _, _, _, _, _ => by simp [Op.eqItems, allEq]
  | x :: xs, y :: ys, j, p1, p2, cs, ds, hl, h1, h2, hx, hy => by
    generalize hFx : ([] : List Nat) = Fx at hx
    generalize hFy : ([] : List Nat) = Fy at hy
    cases hx with
    | @cons F1 F2 _ _ c1 c2 z1 z2 =>
      cases hy with
      | @cons G1 G2 _ _ d1 d2 y1 y2 =>
        obtain ⟨rfl, rfl⟩ := List.append_eq_nil_iff.1 hFx.symm
        obtain ⟨rfl, rfl⟩ := List.append_eq_nil_iff.1 hFy.symm
        have l1 := Rz_len _ _ _ _ _ _ _ z1
        have l2 := Rz_len _ _ _ _ _ _ _ y1
        obtain ⟨u, hu⟩ := agg_sh k c1 l1
        obtain ⟨v, hv⟩ := agg_sh k d1 l2
        have e1 := ih x y u v c1 d1 hu hv z1 y1
        have e2 := run_eqItems w S ht ih xs ys (j + 1) (p1 ++ c1) (p2 ++ d1) c2 d2 (by simpa using hl) (by simp [h1, l1, Nat.add_mul]) (by simp [h2, l2, Nat.add_mul]) z2 y2
        simp only [List.length_cons, List.range'_succ, Op.eqItems, Sem.run_bind, run_partK ht h1 l1 hu, run_partK ht h2 l2 hv, Result.andThen_ok, e1]
        simp only [List.append_assoc] at e2
        cases hq : keq k x y with
        | true => simp only [Bool.not_true, Bool.false_eq_true, if_false, e2, allEq, hq, Bool.true_and]
        | false => simp [allEq, hq]
  | [], _ :: _, _, _, _, _, _, h, _, _, _, _ => by cases h
  | _ :: _, [], _, _, _, _, _, h, _, _, _, _ => by cases h

theorem run_eqK (w : World) (S : Nat → Prop) : ∀ (n : Nat),
    (∀ (t : TypeId) (k : Kt), eqK P n t k = true → ∀ (e : Nat) (x y : k.T) (u v : Value) (cs ds : List Value), Shows k u cs → Shows k v ds → Rz w S k .sh [] x cs → Rz w S k .sh [] y ds → (Op.equalIn (n + e) t u v).run P w = .ok (keq k x y) w) ∧
    (∀ (fs : List Field) (off : Nat) (k : Kt), eqFs P n fs off k = true → ∀ (e : Nat) (x y : k.T) (p1 p2 cs ds : List Value), p1.length = off → p2.length = off → Rz w S k .sh [] x cs → Rz w S k .sh [] y ds → (Op.eqFields (n + e) (p1 ++ cs).toArray (p2 ++ ds).toArray fs).run P w = .ok (keq k x y) w)
  | 0 => ⟨fun t k h => by simp [eqK] at h, fun fs off k h => by simp [eqFs] at h⟩
  | n + 1 => by
    obtain ⟨ih1, ih2⟩ := run_eqK w S n
    refine ⟨fun t k h e x y u v cs ds hu hv hx hy => ?_, fun fs off k h e x y p1 p2 cs ds h1 h2 hx hy => ?_⟩
    · rw [show n + 1 + e = (n + e) + 1 by omega]
      unfold eqK at h
      split at h <;> try (cases h; done)
      · rename_i i i' ht
        have hu : cs = [u] := hu
        have hv : ds = [v] := hv
        have ex := (hx.2.resolve_left fun h => by cases h.1).2
        have ey := (hy.2.resolve_left fun h => by cases h.1).2
        rw [hu] at ex; rw [hv] at ey
        rw [(List.cons.inj ex).1, (List.cons.inj ey).1, run_equalIn_int w (n + e) t i' i _ _ ht]
        rfl
      · rename_i ht
        have hu : cs = [u] := hu
        have hv : ds = [v] := hv
        have ex := (hx.2.resolve_left fun h => by cases h.1).2
        have ey := (hy.2.resolve_left fun h => by cases h.1).2
        rw [hu] at ex; rw [hv] at ey
        rw [(List.cons.inj ex).1, (List.cons.inj ey).1, run_equalIn_bool w (n + e) t _ _ ht]
        rfl
      · rename_i ht
        have hu : cs = [u] := hu
        have hv : ds = [v] := hv
        have ex := (hx.2.resolve_left fun h => by cases h.1).2
        have ey := (hy.2.resolve_left fun h => by cases h.1).2
        rw [hu] at ex; rw [hv] at ey
        rw [(List.cons.inj ex).1, (List.cons.inj ey).1, run_equalIn_string w (n + e) t _ _ ht]
        rfl
      · rename_i m e0 m' a ht
        simp only [Bool.and_eq_true, decide_eq_true_eq] at h
        obtain ⟨⟨⟨⟨rfl, hi⟩, hce⟩, hty⟩, hk⟩ := h
        obtain ⟨i, hi⟩ := Option.isSome_iff_exists.1 hi
        have hu : u = .agg cs.toArray := hu
        have hv : v = .agg ds.toArray := hv
        obtain ⟨hx1, hx2⟩ := hx
        obtain ⟨hy1, hy2⟩ := hy
        rw [hu, hv, run_equalIn_array w (n + e) _ _ ht hi, hce, List.range_eq_range', ← hx1]
        have := run_eqItems w S hty (fun x y u v cs ds => ih1 e0 a hk e x y u v cs ds) x y 0 [] [] cs ds (hx1.trans hy1.symm) (by simp) (by simp) hx2 hy2
        rw [List.nil_append, List.nil_append] at this
        exact this
      · rename_i kk fs ht
        simp only [Bool.and_eq_true, Bool.not_eq_true'] at h
        obtain ⟨⟨hst, hag⟩, hf⟩ := h
        unfold Shows at hu hv
        rw [if_pos hag] at hu hv
        subst hu hv
        have hff : P.fieldsOf t = fs := by unfold Program.fieldsOf; rw [ht]
        rw [run_equalIn_struct w (n + e) t _ _ (by rw [hff]; exact ht) hst, hff]
        have := ih2 fs.toList 0 _ hf e x y [] [] cs ds rfl rfl hx hy
        simpa using this
    · cases fs with
      | nil =>
        cases k <;> first | (simp [eqFs] at h; done) | simp [Op.eqFields, keq]
      | cons f fs =>
        cases k <;> try (simp [eqFs] at h; done)
        rename_i a b
        unfold eqFs at h
        simp only [Bool.and_eq_true, decide_eq_true_eq, beq_iff_eq] at h
        obtain ⟨⟨⟨⟨hn, hoff⟩, hty⟩, hk⟩, hrest⟩ := h
        obtain ⟨F1, F2, c1, c2, hF, rfl, z1, z2⟩ := hx
        obtain ⟨G1, G2, d1, d2, hG, rfl, y1, y2⟩ := hy
        obtain ⟨rfl, rfl⟩ := List.append_eq_nil_iff.1 hF.symm
        obtain ⟨rfl, rfl⟩ := List.append_eq_nil_iff.1 hG.symm
        have l1 := Rz_len _ _ _ _ _ _ _ z1
        have l2 := Rz_len _ _ _ _ _ _ _ y1
        obtain ⟨u, hu⟩ := agg_sh a c1 l1
        obtain ⟨v, hv⟩ := agg_sh a d1 l2
        have e1 := ih1 f.type a hk (e + 1) x.1 y.1 u v c1 d1 hu hv z1 y1
        have e2 := ih2 fs (off + a.size) b hrest (e + 1) x.2 y.2 (p1 ++ c1) (p2 ++ d1) c2 d2 (by simp [h1, l1]) (by simp [h2, l2]) z2 y2
        rw [show n + (e + 1) = n + 1 + e by omega] at e1 e2
        simp only [Op.eqFields]
        rw [if_pos hn]
        simp only [Sem.run_bind, hoff, run_partK hty h1 l1 hu, run_partK hty h2 l2 hv, Result.andThen_ok, e1]
        simp only [List.append_assoc] at e2
        cases hq : keq a x.1 y.1 with
        | true => simp only [Bool.not_true, Bool.false_eq_true, if_false, e2, keq, hq, Bool.true_and]
        | false => simp [keq, hq]

variable {E : Type} {o : Oper} {s : Lst E} {gs : Gs}
def c_eqS (P : Program) (s : Lst E) (gs : Gs) (op : BinOp) (t : TypeId) (k : Kt) (x y : Operand) : Option (OR E) := match c_args s gs [(k, .val), (k, .val)] [x, y] with
  | some A => if k.isAgg && eqK P 40 t k && !P.eqGuardType P.depth t then match op with
    | .eql => some (cVal (.val .bool fun e => keq k (A.d e).1 (A.d e).2.1))
    | .neq => some (cVal (.val .bool fun e => !keq k (A.d e).1 (A.d e).2.1))
    | _ => none
    else none
  | none => none
theorem snd_eqS {op : BinOp} {t t' : TypeId} {k : Kt} {x y : Operand} {r : OR E} (ho : o.op = .binOp op t x y t') (h : c_eqS P s gs op t k x y = some r) : Snd P o s gs r := by
  unfold c_eqS at h
  have mx : x ∈ o.op.operands := by simp [ho, Op.operands]
  have my : y ∈ o.op.operands := by simp [ho, Op.operands]
  split at h <;> try (cases h; done)
  rename_i A hA0
  split at h <;> try (cases h; done)
  rename_i hc
  simp only [Bool.and_eq_true, Bool.not_eq_true'] at hc
  obtain ⟨⟨hag, hc⟩, hg⟩ := hc
  have key : ∀ (cx : Cx) (e : E) (g : G) (ac : Act) (w : World) (V : Nat → Value) (Fp : Nat → List Nat), s.on gs e = true → Agree g s e (opTmps o) 0 → Pre cx g ac w V Fp →
      ∃ c d, ac.eval x = .agg c ∧ ac.eval y = .agg d ∧ (Op.equal t (.agg c) (.agg d)).run P w = .ok (keq k (A.d e).1 (A.d e).2.1) w := by
    intro cx e g ac w V Fp h1 hA hp
    obtain ⟨⟨v1, vs1, q1, ⟨cs, c1, c2⟩, v2, vs2, q2, ⟨ds, d1, d2⟩, _⟩, _⟩ := c_args_spec hp hA h1 A.bs _ _ A hA0 (fun z hz => by
      rcases List.mem_cons.1 hz with rfl | hz
      · exact mx
      · rw [List.mem_singleton.1 hz]; exact my) (fun r h => h)
    obtain ⟨q3, q4⟩ := List.cons.inj q1
    obtain ⟨q5, _⟩ := List.cons.inj (q4.trans q2)
    rw [← q3] at c1
    rw [← q5] at d1
    have := (run_eqK (P := P) w _ 40).1 t _ hc 9960 _ _ _ _ cs ds c1 d1 c2 d2
    unfold Shows at c1 d1
    rw [if_pos hag] at c1 d1
    refine ⟨_, _, c1, d1, ?_⟩
    rw [c1, d1] at this
    exact this
  have gd : ∀ (op : BinOp) (c d : Array Value) (w : World), (eqGuard op t x y (.agg c) (.agg d)).run P w = .ok () w := by
    intro op c d w
    unfold eqGuard
    cases op <;> simp [hg]
  split at h <;> try (cases h; done)
  · obtain rfl := Option.some.inj h
    refine Snd.value fun cx e g ac w V Fp h1 hok hA hp => ?_
    obtain ⟨c, d, e1, e2, e3⟩ := key cx e g ac w V Fp h1 hA hp
    refine ⟨_, ?_, esat_bool _⟩
    simp only [execOp, ho, e1, e2, Sem.run_bind, gd, Result.andThen_ok, binOp, e3]
    rfl
  · obtain rfl := Option.some.inj h
    refine Snd.value fun cx e g ac w V Fp h1 hok hA hp => ?_
    obtain ⟨c, d, e1, e2, e3⟩ := key cx e g ac w V Fp h1 hA hp
    refine ⟨_, ?_, esat_bool _⟩
    simp only [execOp, ho, e1, e2, Sem.run_bind, gd, Result.andThen_ok, binOp, e3]
    rfl
def c_bin2 (P : Program) (s : Lst E) (gs : Gs) (op : BinOp) (t : TypeId) (kt : Option Kt) (x y : Operand) : Option (OR E) := match c_bin P s gs op t x y with
  | some r => some r
  | none => kt.bind fun k => c_eqS P s gs op t k x y
theorem snd_bin2 {op : BinOp} {t t' : TypeId} {kt : Option Kt} {x y : Operand} {r : OR E} (ho : o.op = .binOp op t x y t') (h : c_bin2 P s gs op t kt x y = some r) : Snd P o s gs r := by
  unfold c_bin2 at h
  split at h
  · rename_i q hq
    obtain rfl := Option.some.inj h
    exact snd_bin ho hq
  · obtain ⟨k, _, h⟩ := Option.bind_eq_some_iff.1 h
    exact snd_eqS ho h
end
end Go.Lift

namespace Go.Lift
set_option linter.unusedVariables false
set_option linter.unusedSimpArgs false
section
variable {E : Type} {P : Program} {o : Oper} {s : Lst E} {gs : Gs}

/-! ### x[:n:m] of a value -/
def sl3Ok (h m : E → Int) (n : E → Nat) (e : E) : Bool := decide (0 ≤ h e) && decide (h e ≤ m e) && decide (m e ≤ (n e : Int))
def sl3N (h : E → Int) (e : E) : Nat := (h e).toNat
def c_slice3 (P : Program) (s : Lst E) (gs : Gs) (t : TypeId) (x hi mx : Operand) : Option (OR E) := match s.op gs hi, s.op gs mx, s.op gs x with
  | some (.val (.int _) h), some (.val (.int _) m), some (.val (.sl T el) xs) => if sliceOk P t T el then
      some ⟨some (sl3Ok h m fun e => (xs e).length), [(0, .val (.sl T el) fun e => (xs e).take (sl3N h e))], [], 0⟩ else none
  | _, _, _ => none
theorem snd_slice3 {t : TypeId} {x hi mx : Operand} {r : OR E} (ho : o.op = .slice t x none (some hi) (some mx)) (h : c_slice3 P s gs t x hi mx = some r) : Snd P o s gs r := by
  unfold c_slice3 at h
  have m1 : x ∈ o.op.operands := by simp [ho, Op.operands]
  have m2 : hi ∈ o.op.operands := by simp [ho, Op.operands]
  have m3 : mx ∈ o.op.operands := by simp [ho, Op.operands]
  split at h <;> try (cases h; done)
  rename_i k1 hf k2 mf T el xs h1 h2 h3
  split at h <;> try (cases h; done)
  rename_i ht
  obtain rfl := Option.some.inj h
  refine Snd.value fun cx e g ac w V Fp hon hok hA hp => ?_
  rw [OR.ok_holds] at hok
  have hok : sl3Ok hf mf (fun e => (xs e).length) e = true := hok
  obtain ⟨hv, hhv⟩ : ∃ v : Int, v = hf e := ⟨_, rfl⟩
  obtain ⟨mv, hmv⟩ : ∃ v : Int, v = mf e := ⟨_, rfl⟩
  have hok' : (0 ≤ hv ∧ hv ≤ mv) ∧ mv ≤ (((xs e).length : Nat) : Int) := by
    unfold sl3Ok at hok
    simp only [Bool.and_eq_true, decide_eq_true_eq] at hok
    rw [hhv, hmv]
    exact hok
  obtain ⟨⟨c1, c2⟩, c3⟩ := hok'
  have e1 : ac.eval hi = .int k1 hv := by rw [hhv]; exact (Lst.op_esat hp hA hon m2 h1).int
  have e2 : ac.eval mx = .int k2 mv := by rw [hmv]; exact (Lst.op_esat hp hA hon m3 h2).int
  obtain ⟨A, cap, e3, ⟨h4, hmx⟩, h5⟩ := (Lst.op_esat hp hA hon m1 h3).sl
  obtain ⟨hu, hs⟩ := sliceOk_spec ht
  obtain ⟨inf, h6, h7⟩ := Option.map_eq_some_iff.1 hs
  obtain ⟨H, hH⟩ : ∃ H : Nat, hv = (H : Int) := ⟨hv.toNat, by omega⟩
  obtain ⟨M, hM⟩ : ∃ M : Nat, mv = (M : Int) := ⟨mv.toNat, by omega⟩
  have hb : (Instr.sliceBounds true (xs e).length cap none (some (.int k1 hv)) (some (.int k2 mv))).run P w = .ok (0, H, M) w := by
    rw [hH, hM]
    have q1 : ((M : Nat) : Int) ≤ (cap : Int) := by omega
    have q2 : ((H : Nat) : Int) ≤ (M : Int) := by omega
    simp [Instr.sliceBounds, Instr.sliceBound, asIntOf, q1, q2]
    try omega
  have hA0 : (if M = 0 then A else A.map (·.add (0 * el.size))) = A := by
    split
    · rfl
    · rcases h5 with ⟨h5, h5'⟩ | ⟨b, o', cc, rfl, _⟩
      · cases A with
        | none => rfl
        | some a => simp [Addr.add]
      · simp [Addr.add_lit]
  refine ⟨.slice A H M, ?_, ?_⟩
  · have : (if M = 0 then A else A.map (·.add (0 * inf.size))) = A := by rw [h7]; exact hA0
    simp only [Nat.zero_mul] at this
    simp [execOp, ho, e1, e2, e3, Instr.sliceAt, run_underlying hu, Instr.slice, hb, sizeOf, typeInfo, h6, this]
  · have hl : sl3N hf e = H := by
      unfold sl3N
      have : (hf e : Int) = (H : Int) := hhv.symm.trans hH
      rw [this]; rfl
    have hlen : ((xs e).take H).length = H := by rw [List.length_take]; omega
    refine ⟨[.slice A H M], rfl, rfl, .inr ⟨by simp, A, M, ?_, ?_, ?_⟩⟩
    · show _ = [Value.slice A (List.length ((xs e).take (sl3N hf e))) M]
      rw [hl, hlen]
    · show CapOk (List.length ((xs e).take (sl3N hf e))) M
      rw [hl, hlen]; exact ⟨by omega, by omega⟩
    · show Nl A M ((xs e).take (sl3N hf e)) ∨ _
      rw [hl]
      rcases h5 with ⟨h5, h5'⟩ | ⟨b, o', cc, rfl, k1, k2, k3, k4⟩
      · left
        have hn : (xs e).length = 0 := by rw [h5]; rfl
        refine ⟨List.eq_nil_of_length_eq_zero (by rw [hlen]; omega), fun hA => by omega⟩
      · right
        obtain ⟨F1, F2, d1, d2, hF, rfl, j1, j2⟩ := k3.split H
        obtain ⟨rfl, rfl⟩ := List.append_eq_nil_iff.1 hF.symm
        refine ⟨b, o', d1, rfl, k1, k2, ?_, fun j v hj => k4 j v (by rw [List.getElem?_append_left (List.getElem?_eq_some_iff.1 hj).1]; exact hj)⟩
        show RzL _ [] ((xs e).take (sl3N hf e)) d1
        rw [hl]; exact j1

/-! ### a variable that takes over what is owned -/
def c_boxO (s : Lst E) (gs : Gs) (T : TypeId) (x : Operand) : Option (OR E) := match s.op gs x with
  | some (.own q) => match s.root gs q with
    | some R => if R.k.isAgg then some ⟨none, [(0, .own s.nx)], (s.nx, some ⟨.ptr T R.k, .ow R.m, 0, R.x⟩) :: deadL [q], 1⟩ else none
    | none => none
  | _ => none
theorem snd_boxO {T : TypeId} {x : Operand} {r : OR E} (ho : o.op = .box T x) (h : c_boxO s gs T x = some r) : Snd P o s gs r := by
  unfold c_boxO at h
  have mx : x ∈ o.op.operands := by simp [ho, Op.operands]
  split at h <;> try (cases h; done)
  rename_i q hx
  split at h <;> try (cases h; done)
  rename_i R hR
  split at h <;> try (cases h; done)
  rename_i hag
  obtain rfl := Option.some.inj h
  intro cx e g a w V Fp Q hon hok hA hd hp
  have hrt := (Lst.op_root hA mx hx (List.mem_singleton_self _)).trans (Lst.root_gr hon hR)
  obtain ⟨R0, e1, e2⟩ := Lst.op_esat hp hA hon mx hx
  rw [hrt] at e1
  obtain rfl := Option.some.inj e1
  have e2 : a.eval x = V q := e2 (by simp)
  obtain ⟨cs, z1, z2⟩ := hp.mem.roots q _ hrt
  have hc : (a.eval x).cells = cs.toArray := by
    have hv : V q = .agg cs.toArray := by
      unfold Shows at z1
      rw [if_pos (show (R.ev e).k.isAgg = true from hag)] at z1
      exact z1
    rw [e2, hv]; rfl
  have hnr : g.rt s.nx = none := by have := hA.new 0 (by simp); simpa using this
  refine wp_val (v := .pointer (some ⟨w.heap.size, 0, none⟩)) (w' := w.alloc (.cells cs.toArray T)) (by simp [execOp, ho, Instr.box, newVar, newRow, hc]) ?_
  rw [evs_one, ← gather_ru (V := V) (F' := w.heap.size :: Fp q) (v := .pointer (some ⟨w.heap.size, 0, none⟩))]
  refine hp.gather (dead := [q]) (k := .ptr T R.k) (m := .ow R.m) (x := R.x e) (v := .pointer (some ⟨w.heap.size, 0, none⟩)) (w' := w.alloc (.cells cs.toArray T)) (fun q' hq' => ?_) hnr (F1 := []) rfl rfl rfl (by simp) (fun b hb _ => RowKit.Below.heap_alloc _ _ _ hb) (by simp) (Fall := Fp q) (by simp) (fun b hb => ⟨q, List.mem_singleton_self _, hb⟩) (fun b hb => ?_) (List.nodup_cons.2 ⟨fun hb => ?_, hp.mem.nodup q⟩) (cs := [.pointer (some ⟨w.heap.size, 0, none⟩)]) (by simp [Shows, Kt.isAgg]) (fun Sh' hK => ?_) hd
  · rw [List.mem_singleton.1 hq']; exact ⟨_, hrt⟩
  · rcases List.mem_cons.1 hb with rfl | hb
    · exact .inr (Nat.le_refl _)
    · exact .inl hb
  · have := hp.mem.lt hb
    omega
  · have hK2 : Kp w (cx.Sh Fp) (w.alloc (.cells cs.toArray T)) Sh' := ⟨hK.size, fun b hb hlt => hK.sh b (.inl hb) hlt⟩
    exact ⟨w.heap.size, cs.toArray, Fp q, rfl, rfl, heap_alloc_new' _ _, Rz_keep hK2 _ _ _ _ _ (fun b hb => RowKit.Below.heap_alloc _ _ _ (hp.mem.lt hb)) z2⟩
def c_box2 (s : Lst E) (gs : Gs) (T : TypeId) (x : Operand) : Option (OR E) := match c_box s gs T x with
  | some r => some r
  | none => c_boxO s gs T x
theorem snd_box2 {T : TypeId} {x : Operand} {r : OR E} (ho : o.op = .box T x) (h : c_box2 s gs T x = some r) : Snd P o s gs r := by
  unfold c_box2 at h
  split at h
  · rename_i q hq
    obtain rfl := Option.some.inj h
    exact snd_box ho hq
  · exact snd_boxO ho h
end
end Go.Lift

namespace Go.Lift
set_option linter.unusedVariables false
set_option linter.unusedSimpArgs false
section
variable {E : Type} {P : Program} {o : Oper} {s : Lst E} {gs : Gs}

/-! ### max, min -/
def mmF (b : Builtin) : Option (Int → Int → Int) := match b with
  | .max => some fun x y => if y > x then y else x
  | .min => some fun x y => if y < x then y else x
  | _ => none
/-- The rest of the numbers. -/
def c_ints (s : Lst E) (gs : Gs) (f : Int → Int → Int) : List Operand → (E → Int) → Option (E → Int)
  | [], x => some x
  | y :: ys, x => match s.op gs y with
    | some (.val (.int _) z) => c_ints s gs f ys fun e => f (x e) (z e)
    | _ => none
def c_mm (s : Lst E) (gs : Gs) (b : Builtin) : List Operand → Option (OR E)
  | x :: xs => match mmF b, s.op gs x with
    | some f, some (.val (.int k) z) => (c_ints s gs f xs z).map fun r => cVal (.val (.int k) r)
    | _, _ => none
  | [] => none
theorem c_ints_spec {cx : Cx} {g : G} {a : Act} {w : World} {V : Nat → Value} {Fp : Nat → List Nat} {e : E} {n : Nat} (hp : Pre cx g a w V Fp) (hA : Agree g s e (opTmps o) n) (h1 : s.on gs e = true) {f : Int → Int → Int} {k : IntKind} {F : Value → Value → Sem Value}
    (hF : ∀ (x y : Int) (k' : IntKind), F (.int k x) (.int k' y) = pure (.int k (f x y))) : ∀ (xs : List Operand) (x r : E → Int), c_ints s gs f xs x = some r → (∀ y ∈ xs, y ∈ o.op.operands) → ((xs.map a.eval).foldlM F (.int k (x e))).run P w = .ok (.int k (r e)) w
  | [], x, r, h, _ => by obtain rfl := Option.some.inj h; rfl
  | y :: ys, x, r, h, hm => by
    simp only [c_ints] at h
    split at h <;> try (cases h; done)
    rename_i k' z hz
    have hy := (Lst.op_esat hp hA h1 (hm y (List.mem_cons_self ..)) hz).int
    rw [List.map_cons, List.foldlM_cons, hy, hF, Sem.run_bind, Sem.run_pure, Result.andThen_ok]
    exact c_ints_spec hp hA h1 hF ys (fun e => f (x e) (z e)) r h fun y hy => hm y (List.mem_cons_of_mem _ hy)
theorem snd_mm {b : Builtin} {xs : List Operand} {ta : Array TypeId} {r : OR E} (ho : o.op = .call { callee := .builtin b, args := xs.toArray, argTypes := ta }) (h : c_mm s gs b xs = some r) : Snd P o s gs r := by
  cases xs with
  | nil => cases h
  | cons x xs =>
    simp only [c_mm] at h
    split at h <;> try (cases h; done)
    rename_i f k z hf hx
    obtain ⟨r', hr', rfl⟩ := Option.map_eq_some_iff.1 h
    have hm : ∀ y ∈ x :: xs, y ∈ o.op.operands := by intro y hy; simp [ho, Op.operands, Call.operands]; simpa using hy
    refine Snd.value fun cx e g ac w V Fp h1 hok hA hp => ⟨_, ?_, esat_int _ _⟩
    have hxv := (Lst.op_esat hp hA h1 (hm x (List.mem_cons_self ..)) hx).int
    have hm' : ∀ y ∈ xs, y ∈ o.op.operands := fun y hy => hm y (List.mem_cons_of_mem _ hy)
    unfold mmF at hf
    split at hf <;> try (cases hf; done)
    · obtain rfl := Option.some.inj hf
      have := c_ints_spec (P := P) (F := Builtin.max2) (k := k) hp hA h1 (fun x y k' => rfl) xs z r' hr' hm'
      simp only [execOp, ho, resolve, Sem.run_bind, invoke, builtin]
      simp [hxv, Builtin.max_, this]
    · obtain rfl := Option.some.inj hf
      have := c_ints_spec (P := P) (F := Builtin.min2) (k := k) hp hA h1 (fun x y k' => rfl) xs z r' hr' hm'
      simp only [execOp, ho, resolve, Sem.run_bind, invoke, builtin]
      simp [hxv, Builtin.min_, this]

/-! ### a value in an interface -/
def isIface (P : Program) (t : TypeId) : Bool := match P.underlying t with
  | some (.interface _) => true
  | _ => false
def isConc (P : Program) (t : TypeId) : Bool := match P.underlying t with
  | some (.interface _) => false
  | some _ => true
  | none => false
def c_mkI (P : Program) (s : Lst E) (gs : Gs) (T : TypeId) (x : Operand) : Option (OR E) := if isConc P T then match s.op gs x with
    | some (.val k y) => some (cVal (.val (.ifc T k) fun e => some (y e)))
    | some (.own q) => match s.root gs q with
      | some R => some ⟨none, [(0, .own s.nx)], (s.nx, some ⟨.ifc T R.k, .ow R.m, 0, fun e => some (R.x e)⟩) :: deadL [q], 1⟩
      | none => none
    | _ => none
  else none
theorem run_mkI {T : TypeId} (h : isConc P T = true) (v : Value) (w : World) : (Instr.makeInterface T v).run P w = .ok (.iface T v) w := by
  unfold isConc at h
  split at h <;> try (cases h; done)
  rename_i u hn hu
  simp only [Instr.makeInterface, Sem.run_bind, run_underlying hu, Result.andThen_ok]
  rfl
theorem snd_mkI {T : TypeId} {x : Operand} {r : OR E} (ho : o.op = .makeInterface T x) (h : c_mkI P s gs T x = some r) : Snd P o s gs r := by
  unfold c_mkI at h
  have mx : x ∈ o.op.operands := by simp [ho, Op.operands]
  split at h <;> try (cases h; done)
  rename_i hc
  split at h <;> try (cases h; done)
  · rename_i k y hx
    obtain rfl := Option.some.inj h
    refine Snd.value fun cx e g ac w V Fp h1 hok hA hp => ?_
    obtain ⟨cs, c1, c2⟩ := Lst.op_esat hp hA h1 mx hx
    refine ⟨.iface T (ac.eval x), by simp [execOp, ho, run_mkI hc], [.iface T (ac.eval x)], rfl, .inr ⟨by simp, .inr ⟨_, _, cs, rfl, rfl, c1, c2⟩⟩⟩
  · rename_i q hx
    split at h <;> try (cases h; done)
    rename_i R hR
    obtain rfl := Option.some.inj h
    intro cx e g a w V Fp Q hon hok hA hd hp
    have hrt := (Lst.op_root hA mx hx (List.mem_singleton_self _)).trans (Lst.root_gr hon hR)
    obtain ⟨R0, e1, e2⟩ := Lst.op_esat hp hA hon mx hx
    rw [hrt] at e1
    obtain rfl := Option.some.inj e1
    have e2 : a.eval x = V q := e2 (by simp)
    obtain ⟨cs, z1, z2⟩ := hp.mem.roots q _ hrt
    have hnr : g.rt s.nx = none := by have := hA.new 0 (by simp); simpa using this
    refine wp_val (v := .iface T (V q)) (w' := w) (by simp [execOp, ho, run_mkI hc, e2]) ?_
    rw [evs_one, ← gather_ru (V := V) (F' := Fp q) (v := .iface T (V q))]
    refine hp.gather (dead := [q]) (k := .ifc T R.k) (m := .ow R.m) (x := some (R.x e)) (v := .iface T (V q)) (w' := w) (fun q' hq' => ?_) hnr (F1 := []) rfl rfl rfl (Nat.le_refl _) (fun b hb _ => rfl) (by simp) (Fall := Fp q) (by simp) (fun b hb => ⟨q, List.mem_singleton_self _, hb⟩) (fun b hb => .inl hb) (hp.mem.nodup q) (cs := [.iface T (V q)]) (by simp [Shows, Kt.isAgg]) (fun Sh' hK => ?_) hd
    · rw [List.mem_singleton.1 hq']; exact ⟨_, hrt⟩
    · have hK2 : Kp w (cx.Sh Fp) w Sh' := ⟨hK.size, fun b hb hlt => hK.sh b (.inl hb) hlt⟩
      exact .inr ⟨by simp, .inr ⟨_, _, cs, rfl, rfl, z1, Rz_keep hK2 _ _ _ _ _ (fun b hb => rfl) z2⟩⟩

/-! ### is an interface nil? -/
def c_eqI (P : Program) (s : Lst E) (gs : Gs) (op : BinOp) (t : TypeId) (x y : Operand) : Option (OR E) := match y with
  | .const .nilIface => if isIface P t then
      (match s.op gs x with
      | some (.val (.ifc _ _) z) => some fun e => (z e).isNone
      | some (.own r) => match s.root gs r with
        | some ⟨.ifc _ _, .ow _, _, z⟩ => some fun e => (z e).isNone
        | _ => none
      | _ => none).bind fun f => match op with
        | .eql => some (cVal (.val .bool f))
        | .neq => some (cVal (.val .bool fun e => !f e))
        | _ => none
    else none
  | _ => none
theorem isIface_spec {t : TypeId} (h : isIface P t = true) : ∃ ms, P.underlying t = some (.interface ms) := by
  unfold isIface at h
  split at h <;> try (cases h; done)
  exact ⟨_, ‹_›⟩
theorem run_eqI0 {t : TypeId} (h : isIface P t = true) (w : World) : (Op.equal t .nilIface .nilIface).run P w = .ok true w := by
  obtain ⟨ms, h⟩ := isIface_spec h
  unfold Op.equal
  rw [show Op.maxDepth = 9999 + 1 from rfl, Op.equalIn]
  simp [run_underlying h]
theorem run_eqI1 {t T : TypeId} {v : Value} (h : isIface P t = true) (w : World) : (Op.equal t (.iface T v) .nilIface).run P w = .ok false w := by
  obtain ⟨ms, h⟩ := isIface_spec h
  unfold Op.equal
  rw [show Op.maxDepth = 9999 + 1 from rfl, Op.equalIn]
  simp [run_underlying h]
theorem ifc_nil {w : World} {S : Nat → Prop} {T : TypeId} {k : Kt} {m : Mk} {F : List Nat} {z : Option k.T} {v : Value} {cs : List Value} (hm : m ≠ .ho) (h1 : Shows (.ifc T k) v cs) (h2 : Rz w S (.ifc T k) m F z cs) :
    (z = none ∧ v = .nilIface) ∨ ((∃ y, z = some y) ∧ ∃ u, v = .iface T u) := by
  have h1 : cs = [v] := h1
  rcases h2 with h | ⟨_, ⟨h3, h4, _⟩ | ⟨y, u, cs', h3, h4, _⟩⟩
  · exact absurd h.1 hm
  · rw [h1] at h3; exact .inl ⟨h4, (List.cons.inj h3).1⟩
  · rw [h1] at h4; exact .inr ⟨⟨y, h3⟩, u, (List.cons.inj h4).1⟩
theorem snd_eqI {op : BinOp} {t t' : TypeId} {x y : Operand} {r : OR E} (ho : o.op = .binOp op t x y t') (h : c_eqI P s gs op t x y = some r) : Snd P o s gs r := by
  unfold c_eqI at h
  have mx : x ∈ o.op.operands := by simp [ho, Op.operands]
  split at h <;> try (cases h; done)
  split at h <;> try (cases h; done)
  rename_i hi
  obtain ⟨f, hf, h⟩ := Option.bind_eq_some_iff.1 h
  have key : ∀ (cx : Cx) (e : E) (g : G) (ac : Act) (w : World) (V : Nat → Value) (Fp : Nat → List Nat), s.on gs e = true → Agree g s e (opTmps o) 0 → Pre cx g ac w V Fp → (f e = true ∧ ac.eval x = .nilIface) ∨ (f e = false ∧ ∃ T u, ac.eval x = .iface T u) := by
    intro cx e g ac w V Fp h1 hA hp
    split at hf <;> try (cases hf; done)
    · rename_i T k z hx
      obtain rfl := Option.some.inj hf
      obtain ⟨cs, c1, c2⟩ := Lst.op_esat hp hA h1 mx hx
      rcases ifc_nil (by simp) c1 c2 with ⟨h3, h4⟩ | ⟨⟨y, h3⟩, u, h4⟩
      · exact .inl ⟨by show Option.isNone (z e) = _; rw [h3]; rfl, h4⟩
      · exact .inr ⟨by show Option.isNone (z e) = _; rw [h3]; rfl, _, u, h4⟩
    · rename_i q hx
      split at hf <;> try (cases hf; done)
      rename_i T k m hv z hR
      obtain rfl := Option.some.inj hf
      have hrt := (Lst.op_root hA mx hx (List.mem_singleton_self _)).trans (Lst.root_gr h1 hR)
      obtain ⟨R0, e1, e2⟩ := Lst.op_esat hp hA h1 mx hx
      rw [hrt] at e1
      obtain rfl := Option.some.inj e1
      have e2 : ac.eval x = V q := e2 (by simp)
      obtain ⟨cs, z1, z2⟩ := hp.mem.roots q _ hrt
      rcases ifc_nil (show (Mk.ow m) ≠ .ho by simp) z1 z2 with ⟨h3, h4⟩ | ⟨⟨y, h3⟩, u, h4⟩
      · have h3 : z e = none := h3
        exact .inl ⟨by show Option.isNone (z e) = _; rw [h3]; rfl, e2.trans h4⟩
      · have h3 : z e = some y := h3
        exact .inr ⟨by show Option.isNone (z e) = _; rw [h3]; rfl, _, u, e2.trans h4⟩
  split at h <;> try (cases h; done)
  · obtain rfl := Option.some.inj h
    refine Snd.value fun cx e g ac w V Fp h1 hok hA hp => ?_
    rcases key cx e g ac w V Fp h1 hA hp with ⟨h2, h3⟩ | ⟨h2, T, u, h3⟩
    · refine ⟨.bool true, ?_, ?_⟩
      · simp [execOp, ho, h3, show ac.eval (.const .nilIface) = .nilIface from rfl, eqGuard, binOp, run_eqI0 hi]
      · show ESat _ _ _ _ _ (.val .bool (f e)) _
        rw [h2]; exact esat_bool _
    · refine ⟨.bool false, ?_, ?_⟩
      · simp [execOp, ho, h3, show ac.eval (.const .nilIface) = .nilIface from rfl, eqGuard, binOp, run_eqI1 hi]
      · show ESat _ _ _ _ _ (.val .bool (f e)) _
        rw [h2]; exact esat_bool _
  · obtain rfl := Option.some.inj h
    refine Snd.value fun cx e g ac w V Fp h1 hok hA hp => ?_
    rcases key cx e g ac w V Fp h1 hA hp with ⟨h2, h3⟩ | ⟨h2, T, u, h3⟩
    · refine ⟨.bool false, ?_, ?_⟩
      · simp [execOp, ho, h3, show ac.eval (.const .nilIface) = .nilIface from rfl, eqGuard, binOp, run_eqI0 hi]
      · show ESat _ _ _ _ _ (.val .bool (!f e)) _
        rw [h2]; exact esat_bool _
    · refine ⟨.bool true, ?_, ?_⟩
      · simp [execOp, ho, h3, show ac.eval (.const .nilIface) = .nilIface from rfl, eqGuard, binOp, run_eqI1 hi]
      · show ESat _ _ _ _ _ (.val .bool (!f e)) _
        rw [h2]; exact esat_bool _
def c_bin3 (P : Program) (s : Lst E) (gs : Gs) (op : BinOp) (t : TypeId) (kt : Option Kt) (x y : Operand) : Option (OR E) := match c_bin2 P s gs op t kt x y with
  | some r => some r
  | none => c_eqI P s gs op t x y
theorem snd_bin3 {op : BinOp} {t t' : TypeId} {kt : Option Kt} {x y : Operand} {r : OR E} (ho : o.op = .binOp op t x y t') (h : c_bin3 P s gs op t kt x y = some r) : Snd P o s gs r := by
  unfold c_bin3 at h
  split at h
  · rename_i q hq
    obtain rfl := Option.some.inj h
    exact snd_bin2 ho hq
  · exact snd_eqI ho h

/-! ### the whole of an array that may be read, as a slice -/
def arrPtr (P : Program) (t : TypeId) (n : Nat) (e : Kt) : Option TypeId := match P.underlying t with
  | some (.array n' T) => if n' = n ∧ (P.info? T).map (·.size) = some e.size ∧ n ≤ 9223372036854775807 then some T else none
  | _ => none
def c_sliceA (P : Program) (s : Lst E) (gs : Gs) (t : TypeId) (x : Operand) : Option (OR E) := match s.op gs x with
  | some (.place (.arr n e) y) => match arrPtr P t n e with
    | some T => some (cVal (.val (.sl T e) y))
    | none => none
  | _ => none
theorem snd_sliceA {t : TypeId} {x : Operand} {r : OR E} (ho : o.op = .slice t x none none none) (h : c_sliceA P s gs t x = some r) : Snd P o s gs r := by
  unfold c_sliceA at h
  have mx : x ∈ o.op.operands := by simp [ho, Op.operands]
  split at h <;> try (cases h; done)
  rename_i n e y hx
  split at h <;> try (cases h; done)
  rename_i T hT
  obtain rfl := Option.some.inj h
  unfold arrPtr at hT
  split at hT <;> try (cases hT; done)
  rename_i n' T' hu
  split at hT <;> try (cases hT; done)
  rename_i hc
  obtain rfl := Option.some.inj hT
  obtain ⟨rfl, h3, h4⟩ := hc
  obtain ⟨inf, h6, h7⟩ := Option.map_eq_some_iff.1 h3
  refine Snd.value fun cx e0 g ac w V Fp hon hok hA hp => ?_
  obtain ⟨b, o', cc, k1, k2, k3, k4, k5⟩ := Lst.op_esat hp hA hon mx hx
  obtain ⟨k6, k7⟩ := k4
  have hA0 : (if n' = 0 then (⟨b, o', none⟩ : Addr) else (⟨b, o', none⟩ : Addr).add (0 * inf.size)) = ⟨b, o', none⟩ := by
    split
    · rfl
    · simp [Addr.add_lit]
  have hA1 := hA0
  simp only [Nat.zero_mul] at hA1
  refine ⟨.slice (some ⟨b, o', none⟩) n' n', ?_, ?_⟩
  · simp [execOp, ho, k1, Instr.sliceAt, run_underlying hu, Instr.sliceBounds, Instr.sureAddr, sizeOf, typeInfo, h6, hA1]
  · refine ⟨[.slice (some ⟨b, o', none⟩) n' n'], rfl, rfl, .inr ⟨by simp, some ⟨b, o', none⟩, n', ?_, ?_, .inr ⟨b, o', cc, rfl, k2, k3, k7, k5⟩⟩⟩
    · show _ = [Value.slice _ (List.length (y e0)) n']
      rw [k6]
    · show CapOk (List.length (y e0)) n'
      rw [k6]; exact ⟨Nat.le_refl _, h4⟩

/-! ### a call of a function by its number -/
def denOf (sg : Sig) : List (FuncId × Spec) → FuncId → Nat → HL (sg.ps.map (·.1)) → Option (HL (sg.rs.map (·.1)) × HL ((mutsOf sg.ps).map (·.1)))
  | [], _, _, _ => none
  | (f', sp) :: l, f, k, d => if h : sp.sig = sg then (if f' = f then (h ▸ sp.den) k d else denOf sg l f k d) else denOf sg l f k d
theorem denOf_spec {sg : Sig} : ∀ {l : List (FuncId × Spec)} {f : FuncId} {k : Nat} {d : HL (sg.ps.map (·.1))} {r : HL (sg.rs.map (·.1)) × HL ((mutsOf sg.ps).map (·.1))}, denOf sg l f k d = some r → ∃ den, (f, ⟨sg, den⟩) ∈ l ∧ den k d = some r
  | [], f, k, d, r, h => by cases h
  | (f', sp) :: l, f, k, d, r, h => by
    unfold denOf at h
    split at h
    · rename_i hs
      split at h
      · rename_i hf
        subst hf
        obtain ⟨sg', den⟩ := sp
        have hs : sg' = sg := hs
        subst hs
        exact ⟨den, List.mem_cons_self .., h⟩
      · obtain ⟨den, h1, h2⟩ := denOf_spec h
        exact ⟨den, List.mem_cons_of_mem _ h1, h2⟩
    · obtain ⟨den, h1, h2⟩ := denOf_spec h
      exact ⟨den, List.mem_cons_of_mem _ h1, h2⟩
def c_callF (P : Program) (tab : List (FuncId × Spec)) (s : Lst E) (gs : Gs) (t : Tmp) (xs : List Operand) : Option (OC E) := match s.op gs (.tmp t), tab with
  | some (.val .fnv y), (_, sp) :: _ => match c_args s gs sp.sig.ps xs with
    | none => none
    | some A => if tab.all (fun q => callOk P q.1) && nodupB A.os && disjB A.os A.bs && A.os.all (fun r => A.ms.contains r || A.ts.contains r) && (A.bs.isEmpty || tightSig sp.sig) then
        let q := c_res (E' := E × (HL (sp.sig.rs.map (·.1)) × HL ((mutsOf sp.sig.ps).map (·.1)))) sp.sig.rs (if sp.sig.rs.length = 1 then 0 else 1) s.nx fun e => e.2.1
        some ⟨_, fun k e => (y e).bind fun f => denOf sp.sig tab f k (A.d e), (HL.dflt _, HL.dflt _), q.1, (q.2 ++ c_mut s gs sp.sig.ps A.ms fun e => e.2.2) ++ A.ts.map fun r => (r, none), ownCount sp.sig.rs⟩
      else none
  | _, _ => none
theorem snd_callF {Gl : World → Prop} {tab : List (FuncId × Spec)} (htab : ∀ f sp, (f, sp) ∈ tab → FnOk P Gl f sp) {t : Tmp} {xs : List Operand} {ta : Array TypeId} {r : OC E} (ho : o.op = .call { callee := .value (.tmp t), args := xs.toArray, argTypes := ta }) (h : c_callF P tab s gs t xs = some r) : SndC P Gl o s gs r := by
  unfold c_callF at h
  split at h <;> try (cases h; done)
  rename_i y f0 sp l0 hy
  split at h <;> try (cases h; done)
  rename_i A hA0
  split at h <;> try (cases h; done)
  rename_i hc
  simp only [Bool.and_eq_true] at hc
  obtain ⟨⟨⟨⟨hc1, hc2⟩, hc3⟩, hc5⟩, hc4⟩ := hc
  obtain rfl := Option.some.inj h
  intro cx k e x g a w V Fp Q hGl hon hden hA hd hp
  have mt : Operand.tmp t ∈ o.op.operands := by simp [ho, Op.operands, Call.operands]
  have hm : ∀ y ∈ xs, y ∈ o.op.operands := by intro y hy; simp [ho, Op.operands, Call.operands, hy]
  obtain ⟨hargs, hmuti⟩ := c_args_spec hp hA hon A.bs _ xs A hA0 hm (fun r h => h)
  have hroots : ∀ r ∈ A.ms, ∃ R, s.root gs r = some R ∧ g.rt r = some (some (R.ev e)) := by
    intro r hr
    obtain ⟨y, R, h1, h2, h3⟩ := c_args_ms hA0 r hr
    exact ⟨R, h3, (Lst.op_root hA (hm y h1) h2 (List.mem_singleton_self _)).trans (Lst.root_gr hon h3)⟩
  obtain ⟨cs, hs, _, hz⟩ := Lst.op_esat hp hA hon mt hy
  have h2 := (hz.resolve_left fun h => by cases h.1).2
  have hs' : cs = [a.eval (.tmp t)] := hs
  rw [hs'] at h2
  have hval := (List.cons.inj h2).1
  obtain ⟨f, hf, hdn⟩ := Option.bind_eq_some_iff.1 hden
  obtain ⟨den, hmem, hdn⟩ := denOf_spec hdn
  have hval : a.eval (.tmp t) = .func (.func f) #[] #[] := by rw [hval]; show fnV (y e) = _; rw [hf]; rfl
  have hcf : callOk P f = true := by
    rw [List.all_eq_true] at hc1
    exact hc1 _ hmem
  have hrun : (execOp a.eval o).run P w = .ok (.enter f (xs.map a.eval).toArray) w := by
    unfold callOk at hcf
    split at hcf <;> try (cases hcf; done)
    rename_i fn hfn
    simp only [Bool.and_eq_true, Bool.not_eq_true'] at hcf
    have n1 : fn.name ≠ "runtime.NumGoroutine" := by simpa using hcf.1
    have n2 : fn.body ≠ none := by intro h0; rw [h0] at hcf; cases hcf.2
    simp [execOp, ho, resolve, hval, Deferred.ofValue, invoke, callFunc, hfn, n1, n2]
  exact call_core (sp := ⟨sp.sig, den⟩) (htab f _ hmem) hGl hdn hp hd hargs hmuti hc2 hc3 hc5 hc4 hA.new hroots hrun
def c_callW (P : Program) (tab : List (FuncId × Spec)) (s : Lst E) (gs : Gs) (t : Tmp) (xs : List Operand) : Option (OC E) := match c_callv P tab s gs t xs with
  | some r => some r
  | none => c_callF P tab s gs t xs
theorem snd_callW {Gl : World → Prop} {tab : List (FuncId × Spec)} (htab : ∀ f sp, (f, sp) ∈ tab → FnOk P Gl f sp) {t : Tmp} {xs : List Operand} {ta : Array TypeId} {r : OC E} (ho : o.op = .call { callee := .value (.tmp t), args := xs.toArray, argTypes := ta }) (h : c_callW P tab s gs t xs = some r) : SndC P Gl o s gs r := by
  unfold c_callW at h
  split at h
  · rename_i q hq
    obtain rfl := Option.some.inj h
    exact snd_callv htab ho hq
  · exact snd_callF htab ho h
end
end Go.Lift

namespace Go.Lift
set_option linter.unusedVariables false
set_option linter.unusedSimpArgs false

/-! ### A root seen as of another kind -/
structure Conv (k1 : Kt) (m : Mk) (x1 : k1.T) (k2 : Kt) (x2 : k2.T) : Prop where
  rz : ∀ w Sh F cs, Rz w Sh k1 m F x1 cs → Rz w Sh k2 m F x2 cs
  agg : k1.isAgg = false ∧ k2.isAgg = false
  shal : ∀ p, shal k2 p = shal k1 p
  gok : ∀ p, gok k2 m x2 p = true → gok k1 m x1 p = true
  adr : ∀ w v p, adr w k2 none [v] p = adr w k1 none [v] p

theorem adr_winE {w : World} {T : TypeId} {e : Kt} {v : Value} {p : List (St Nat)} : adr w (.win (.sl T e)) none [v] p = adr w (.sl T e) none [v] p := by
  cases p with
  | nil => simp [adr]
  | cons s p =>
    cases s with
    | ix i =>
      cases v <;> first | (simp [adr]; done) | skip
      rename_i A n c
      exact adr_win
    | _ => cases v <;> simp [adr]
theorem shal_winE {T : TypeId} {e : Kt} (p : List (St Nat)) : shal (.win (.sl T e)) p = shal (.sl T e) p := by
  cases p with
  | nil => rfl
  | cons s p => cases s <;> rfl
/-- A slice seen as a window: all of it is in sight. -/
theorem conv_win {T : TypeId} {e : Kt} {m : Mk} {l : List e.T} {n : Nat} (hn : n = l.length) : Conv (.sl T e) (.ow m) l (.win (.sl T e)) (l, n) where
  rz := fun w Sh F cs h => by
    subst hn
    rcases h with ⟨rfl, h1, rfl⟩ | ⟨g, cap, C, Fe, rfl, h2⟩
    · exact .inr ⟨by simp, none, 0, 0, by rw [h1]; rfl, by rw [h1]; exact Nat.le_refl _, .inl ⟨rfl, h1, rfl⟩⟩
    · exact .inr ⟨by simp, some ⟨g, 0, none⟩, _, cap, rfl, Nat.le_refl _, .inr ⟨g, cap, C, Fe, rfl, h2⟩⟩
  agg := ⟨rfl, rfl⟩
  shal := shal_winE
  gok := fun p h => by
    cases p with
    | nil => rfl
    | cons s p =>
      cases s <;> first | (simp [Go.Lift.gok] at h; done) | skip
      simp only [Go.Lift.gok, Bool.and_eq_true, decide_eq_true_eq] at h ⊢
      exact h.2
  adr := fun w v p => adr_winE
/-- A window of which all is in sight, seen as a slice. -/
theorem conv_unwin {T : TypeId} {e : Kt} {m : Mk} {z : List e.T × Nat} (hz : z.2 = z.1.length) : Conv (.win (.sl T e)) (.ow m) z (.sl T e) z.1 where
  rz := fun w Sh F cs h => by
    obtain ⟨_, A, n, cap, rfl, hn, h⟩ := h.resolve_left fun h => by cases h.1
    have : n = z.2 := by
      rcases h with ⟨_, h1, h2⟩ | ⟨g, cap', C, Fe, h2, _⟩
      · obtain ⟨_, rfl, _⟩ := Value.slice.inj (List.cons.inj h2).1
        have h1 : z.1 = [] := h1
        rw [hz, h1]; rfl
      · obtain ⟨_, rfl, _⟩ := Value.slice.inj (List.cons.inj h2).1
        exact hz.symm
    subst this
    exact h
  agg := ⟨rfl, rfl⟩
  shal := fun p => (shal_winE p).symm
  gok := fun p h => by
    cases p with
    | nil => rfl
    | cons s p =>
      cases s <;> first | (simp [Go.Lift.gok] at h; done) | skip
      simp only [Go.Lift.gok, Bool.and_eq_true, decide_eq_true_eq] at h ⊢
      exact ⟨by rw [hz]; exact h.1, h⟩
  adr := fun w v p => adr_winE.symm

theorem shows_na {k : Kt} (h : k.isAgg = false) {v : Value} {cs : List Value} : Shows k v cs ↔ cs = [v] := by
  unfold Shows; rw [h]; simp
theorem hdr_na {k : Kt} (h : k.isAgg = false) (v : Value) : hdr k v = [v] := by
  unfold hdr; rw [h]; simp

section
variable {P : Program} {cx : Cx} {g : G} {a : Act} {w : World} {V : Nat → Value} {Fp : Nat → List Nat}

theorem ESat.conv {rt : Nat → Option GR} {r : Nat} {k1 k2 : Kt} {m : Mk} {hv : Nat} {x1 : k1.T} {x2 : k2.T} (hr : rt r = some (some ⟨k1, m, hv, x1⟩)) (c : Conv k1 m x1 k2 x2) {ent : GEnt} {v : Value}
    (h : ESat cx rt V Fp w ent v) : ESat cx (upd rt r (some (some ⟨k2, m, hv, x2⟩))) V Fp w ent v := by
  cases ent with
  | val k x => exact h
  | place k x => exact h
  | cst v => exact h
  | atl x => exact h
  | own q =>
    obtain ⟨R, h1, h2⟩ := h
    by_cases hq : q = r
    · subst hq
      rw [hr] at h1
      obtain rfl := Option.some.inj h1
      exact ⟨_, upd_same _ _ _, fun _ => h2 (by simp)⟩
    · exact ⟨R, by rw [upd_ne _ _ hq]; exact h1, h2⟩
  | loc q hv' p =>
    obtain ⟨R, h1, h2⟩ := h
    by_cases hq : q = r
    · subst hq
      rw [hr] at h1
      obtain rfl := Option.some.inj h1
      obtain ⟨h3, h4⟩ := h2 _ rfl
      refine ⟨_, upd_same _ _ _, fun R' hR' => ?_⟩
      obtain rfl := Option.some.inj hR'
      refine ⟨h3, fun hc => ?_⟩
      obtain ⟨b, o, e1, e2⟩ := h4 (hc.imp (fun h => ⟨(c.shal p) ▸ h.1, h.2⟩) fun h => ⟨h.1, c.gok p h.2⟩)
      refine ⟨b, o, e1, ?_⟩
      rw [hdr_na c.agg.1] at e2
      show adr w k2 none (hdr k2 (V q)) p = _
      rw [hdr_na c.agg.2, c.adr]; exact e2
    · exact ⟨R, by rw [upd_ne _ _ hq]; exact h1, h2⟩
  | sub q hv' p =>
    obtain ⟨R, h1, h2⟩ := h
    by_cases hq : q = r
    · subst hq
      rw [hr] at h1
      obtain rfl := Option.some.inj h1
      obtain ⟨h3, h4⟩ := h2 _ rfl
      refine ⟨_, upd_same _ _ _, fun R' hR' => ?_⟩
      obtain rfl := Option.some.inj hR'
      refine ⟨h3, fun hc hg => ?_⟩
      obtain ⟨b, o, e0, e1, e2⟩ := h4 hc (c.gok p hg)
      refine ⟨b, o, e0, ?_, e2⟩
      rw [hdr_na c.agg.1] at e1
      show adr w k2 none (hdr k2 (V q)) p = _
      rw [hdr_na c.agg.2, c.adr]; exact e1
    · exact ⟨R, by rw [upd_ne _ _ hq]; exact h1, h2⟩
  | view q hv' k p =>
    obtain ⟨R, h1, h2⟩ := h
    by_cases hq : q = r
    · subst hq
      rw [hr] at h1
      obtain rfl := Option.some.inj h1
      obtain ⟨h3, h4⟩ := h2 _ rfl
      refine ⟨_, upd_same _ _ _, fun R' hR' => ?_⟩
      obtain rfl := Option.some.inj hR'
      refine ⟨h3, fun hc hg => ?_⟩
      obtain ⟨b, o, cs, e0, e1, e2⟩ := h4 hc (c.gok p hg)
      refine ⟨b, o, cs, e0, ?_, e2⟩
      rw [hdr_na c.agg.1] at e1
      show adr w k2 none (hdr k2 (V q)) p = _
      rw [hdr_na c.agg.2, c.adr]; exact e1
    · exact ⟨R, by rw [upd_ne _ _ hq]; exact h1, h2⟩

theorem Mem.conv {rt : Nat → Option GR} (h : Mem cx rt V Fp w) {r : Nat} {k1 k2 : Kt} {m : Mk} {hv : Nat} {x1 : k1.T} {x2 : k2.T} (hr : rt r = some (some ⟨k1, m, hv, x1⟩)) (c : Conv k1 m x1 k2 x2) : Mem cx (upd rt r (some (some ⟨k2, m, hv, x2⟩))) V Fp w := by
  refine ⟨h.os, h.tape, h.output, h.size, h.frame, fun q R hq => ?_, fun q hq => ?_, h.nodup, h.disj, h.own⟩
  · by_cases hqr : q = r
    · subst hqr
      rw [upd_same] at hq
      obtain rfl := Option.some.inj (Option.some.inj hq)
      obtain ⟨cs, h1, h2⟩ := h.roots q _ hr
      exact ⟨cs, (shows_na c.agg.2).2 ((shows_na c.agg.1).1 h1), c.rz _ _ _ _ h2⟩
    · rw [upd_ne _ _ hqr] at hq
      exact h.roots q R hq
  · by_cases hqr : q = r
    · subst hqr
      rw [upd_same] at hq
      exact absurd rfl (hq _)
    · rw [upd_ne _ _ hqr] at hq
      exact h.none q hq
theorem Pre.conv (h : Pre cx g a w V Fp) {r : Nat} {k1 k2 : Kt} {m : Mk} {hv : Nat} {x1 : k1.T} {x2 : k2.T} (hr : g.rt r = some (some ⟨k1, m, hv, x1⟩)) (c : Conv k1 m x1 k2 x2) : Pre cx ⟨g.tm, upd g.rt r (some (some ⟨k2, m, hv, x2⟩))⟩ a w V Fp :=
  ⟨h.defers, h.size, h.mem.conv hr c, fun t i ent he => by
    obtain ⟨v, u, h1, h2, h3⟩ := h.ents t i ent he
    exact ⟨v, u, h1, h2, h3.conv hr c⟩⟩
theorem GSat.conv (h : GSat cx g a w) {r : Nat} {k1 k2 : Kt} {m : Mk} {hv : Nat} {x1 : k1.T} {x2 : k2.T} (hr : g.rt r = some (some ⟨k1, m, hv, x1⟩)) (c : Conv k1 m x1 k2 x2) : GSat cx ⟨g.tm, upd g.rt r (some (some ⟨k2, m, hv, x2⟩))⟩ a w := by
  obtain ⟨V, Fp, hp⟩ := h.pre
  have := hp.conv hr c
  exact ⟨this.defers, this.size, V, Fp, this.mem, this.ents⟩

/-- A part is taken out of its root; nothing is done for it. -/
theorem Pre.takeOut (h : Pre cx g a w V Fp) {t : Tmp} {r r' : Nat} {R : GRoot} {E : Type} (e : E) {p : Path E} {L : Lens E R.k} (hx : g.tm (t, 0) = some (.sub r R.hv (p.at e)))
    (hr : g.rt r = some (some R)) (how : ∃ m1, R.m = .ow m1) (hL : lens R.k R.m p = some L) (hok : L.ok e R.x = true) (hk : L.k'.isAgg = false ∧ L.k'.size = 1) {mr : Mk} (hms : mset R.k R.m p.sh .ho = some mr) (hr' : g.rt r' = none) :
    ∃ V' Fp', Pre cx ⟨fun q => if q = (t, 0) then some (.own r') else g.tm q, upd (upd g.rt r (some (some ⟨R.k, mr, R.hv + 1, L.put e R.x (L.get e R.x)⟩))) r' (some (some ⟨L.k', L.m', 0, L.get e R.x⟩))⟩ a w V' Fp' := by
  obtain ⟨v, u, hv1, hv2, R0, q1, q2⟩ := h.ents t 0 _ hx
  obtain rfl := Option.some.inj hv2
  rw [hr] at q1
  obtain rfl := Option.some.inj q1
  obtain ⟨b, o', hbF, hadr, hcell⟩ := (q2 R rfl).2 rfl (gok_lens' e hL hok)
  obtain ⟨Fa, Fo, Fb, c, hF, hc, H⟩ := h.hole hr e hL hok
  rcases H with ⟨c1, c2, k1, k2, _⟩ | ⟨b', c1, c2, T', hb, k2, k3, k4⟩
  · rw [k2 none] at hadr; cases hadr
  have := k2 none
  rw [hadr] at this
  obtain ⟨rfl, rfl⟩ := Prod.mk.inj (Option.some.inj this)
  clear this
  have hlc := Rz_len _ _ _ _ _ _ _ hc
  rw [hk.2] at hlc
  obtain ⟨v0, rfl⟩ : ∃ v0, c = [v0] := by
    match c, hlc with
    | [v0], _ => exact ⟨v0, rfl⟩
  have hv0 : v = v0 := by
    rw [cell_of_block k3] at hcell
    simpa using hcell.symm
  subst hv0
  have hnd : (Fa ++ (Fo ++ Fb)).Nodup := hF ▸ h.mem.nodup r
  have n1 := List.nodup_append.1 hnd
  have n2 := List.nodup_append.1 n1.2.1
  have hFr : Fp r' = [] := h.mem.none r' (by rw [hr']; simp)
  have hne : r ≠ r' := fun e => by rw [e, hr'] at hr; cases hr
  obtain ⟨csr, hsr, hzr⟩ := h.mem.roots r R hr
  have hFo : ∀ u ∈ Fo, u ∉ Fa ++ Fb := fun u hu hu' => by
    rcases List.mem_append.1 hu' with hu' | hu'
    · exact n1.2.2 u hu' u (List.mem_append_left _ hu) rfl
    · exact n2.2.2 u hu u hu' rfl
  have hst : Step cx g.rt (upd (upd g.rt r (some (some ⟨R.k, mr, R.hv + 1, L.put e R.x (L.get e R.x)⟩))) r' (some (some ⟨L.k', L.m', 0, L.get e R.x⟩))) V (upd V r' v) Fp (upd (upd Fp r (Fa ++ Fb)) r' Fo) w w (fun s => s = r ∨ s = r') := by
    refine ⟨rfl, rfl, rfl, Nat.le_refl _, fun u _ _ => rfl, fun s hs => ?_, fun s hs u hu => ?_, fun s hs => ?_, fun s s' hs hs' hne' u hu hu' => ?_, fun s hs hn => ?_, fun s R' hs hR hK => ?_, fun s hs => ?_⟩
    · have h1 : s ≠ r := fun e => hs (.inl e)
      have h2 : s ≠ r' := fun e => hs (.inr e)
      exact ⟨by rw [upd_ne _ _ h2, upd_ne _ _ h1], upd_ne _ _ h2, by rw [upd_ne _ _ h2, upd_ne _ _ h1]⟩
    · refine .inr ⟨r, .inl rfl, ?_⟩
      rw [hF]
      rcases hs with rfl | rfl
      · rw [upd_ne _ _ hne, upd_same] at hu
        rcases List.mem_append.1 hu with hu | hu <;> simp [hu]
      · rw [upd_same] at hu
        simp [hu]
    · rcases hs with rfl | rfl
      · rw [upd_ne _ _ hne, upd_same]
        exact List.nodup_append.2 ⟨n1.1, n2.2.1, fun u hu v hv e => n1.2.2 u hu v (List.mem_append_right _ hv) e⟩
      · rw [upd_same]; exact n2.1
    · rcases hs with rfl | rfl
      · rcases hs' with rfl | rfl
        · exact hne' rfl
        · rw [upd_ne _ _ hne, upd_same] at hu
          rw [upd_same] at hu'
          exact hFo u hu' hu
      · rcases hs' with rfl | rfl
        · rw [upd_same] at hu
          rw [upd_ne _ _ hne, upd_same] at hu'
          exact hFo u hu hu'
        · exact hne' rfl
    · rcases hs with rfl | rfl
      · rw [upd_ne _ _ hne, upd_same] at hn; exact absurd rfl (hn _)
      · rw [upd_same] at hn; exact absurd rfl (hn _)
    · rcases hs with rfl | rfl
      · rw [upd_ne _ _ hne, upd_same] at hR
        obtain rfl := Option.some.inj (Option.some.inj hR)
        refine ⟨csr, by rw [upd_ne _ _ hne]; exact hsr, ?_⟩
        rw [upd_ne _ _ hne, upd_same, ← shows_hdr hsr]
        have hzn : Rz w (cx.Sh (upd (upd Fp s (Fa ++ Fb)) r' Fo)) L.k' .ho [] (L.get e R.x) [v] := Rz_keep hK _ _ _ _ _ (by simp) (Rz_ho _ _ _ _ _ hc)
        simpa using (k4 w _ .ho mr [] (L.get e R.x) [v] hK (fun _ _ _ => rfl) k3 (mset_spec e p _ _ _ _ hms) hzn).1
      · rw [upd_same] at hR
        obtain rfl := Option.some.inj (Option.some.inj hR)
        exact ⟨[v], by rw [upd_same]; exact (shows_na hk.1).2 rfl, by rw [upd_same]; exact Rz_keep hK _ _ _ _ _ (fun _ _ => rfl) hc⟩
    · rcases hs with rfl | rfl
      · rw [hr, upd_ne _ _ hne, upd_same]
        exact .inr ⟨mr, _, _, rfl, upd_ne _ _ hne, .inr ⟨Nat.lt_succ_self _, fun _ _ => how, fun p' hp' => rfl⟩⟩
      · rw [hr']; trivial
  refine ⟨_, _, h.defers, h.size, hst.mem h.mem, fun t' i ent he => ?_⟩
  by_cases hq : (t', i) = (t, 0)
  · simp only [hq, if_true] at he
    obtain rfl := Option.some.inj he
    obtain ⟨rfl, rfl⟩ := Prod.mk.inj hq
    exact ⟨v, v, hv1, rfl, _, upd_same _ _ _, fun _ => (upd_same _ _ _).symm⟩
  · simp only [hq, if_false] at he
    obtain ⟨v', u', h1, h2, h3⟩ := h.ents t' i ent he
    exact ⟨v', u', h1, h2, hst.esat h.mem h3⟩
end
end Go.Lift
