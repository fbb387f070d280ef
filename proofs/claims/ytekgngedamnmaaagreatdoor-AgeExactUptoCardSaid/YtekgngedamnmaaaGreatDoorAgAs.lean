/-
  errors.As at this program's one target: a variable of type *check.wrong (turned from a worked example of the kit).
-/
import Derived.Test.YtekgngedamnmaaaGreatDoorProg
import Derived.WalkKit
import Derived.LaidEql
import Derived.Stop.Asserts
import Derived.RowKitTokens
namespace Go.Proofs.YtekgngedamnmaaaGreatDoor.L
open Go.RowKit Go.Extern.Stop Go.Stop Go.Extern
set_option linter.unusedVariables false
set_option linter.unusedSimpArgs false

/-- errors.As(nil, target). -/
theorem as_nil (t : Value) (w : World) :
    Calls Tryz.prog 147 #[.nilIface, t] w fun e w' => e = .returned (.bool false) ∧ w' = w := by
  go_enter Tryz.func147, Tryz.ntmps147
  go_wp2
  go_ret
  exact ⟨rfl, rfl⟩

/-! ### Facts on what the model has for reflectlite, at this program's types -/
theorem Tas_valueOf27 (t : Addr) (w : World) : (ReflectliteValue.unpack (.iface 209 (.pointer (some t)))).run Tryz.prog w
    = .ok (.agg #[.pointer (some ⟨2, 209, none⟩), .pointer (some ⟨w.heap.size, 0, none⟩), .int .u64 150]) (w.alloc (.cells #[.pointer (some t)] 209)) := by kernel_rfl
theorem Tas_type27 (a : Addr) (w : World) : (ReflectliteValue.methodAny (ReflectliteValue.valueError "reflectlite.Value.Type" 0) (fun t _ _ _ => ReflectliteType.toType t) #[.agg #[.pointer (some ⟨2, 209, none⟩), .pointer (some a), .int .u64 150]]).run Tryz.prog w
    = .ok (.iface 294 (.agg #[.pointer (some ⟨2, 209, none⟩)])) w := by kernel_rfl
theorem Tas_methodKind (h : Value) (w : World) : (Go.method 460 294 (.agg #[h]) "Kind").run Tryz.prog w = .ok (256, h) w := by kernel_rfl
theorem Tas_kind27 (w : World) : ((ReflectliteType.abiMethod fun t => (fun a : Nat => Value.int IntKind.u8 (a : Int)) <$> Rtype.kind t) #[.pointer (some ⟨2, 209, none⟩)]).run Tryz.prog w = .ok (.int .u8 22) w := by kernel_rfl
theorem Tas_kind25 (w : World) : ((ReflectliteType.abiMethod fun t => (fun a : Nat => Value.int IntKind.u8 (a : Int)) <$> Rtype.kind t) #[.pointer (some ⟨2, 205, none⟩)]).run Tryz.prog w = .ok (.int .u8 22) w := by kernel_rfl

/-! ### THE ENTRIES THAT READ OR WRITE MEMORY: laws with a premise on the cell (after Derived/Lib/ReflectliteSlice.lean's manner: each unfolding a lemma of its own, by rfl) -/
theorem rlm (z : Sem Value) (f : TypeId → Addr → Nat → Nat → Sem Value) (v : Value) :
    ReflectliteValue.method z f #[v] = (do match ← ReflectliteValue.parts v with | none => z | some (t, a, fl) => f t a fl (fl % 32)) := rfl
theorem Tas_parts27 (a : Addr) (w : World) : (ReflectliteValue.parts (.agg #[.pointer (some ⟨2, 209, none⟩), .pointer (some a), .int .u64 150])).run Tryz.prog w = .ok (some (209, a, 150)) w := by kernel_rfl
/-- (Value).IsNil at the Value of a **p.E that is not nil. -/
theorem Tas_isNil27 (a p : Addr) (W : World) (ha : W.cell? a = some (.pointer (some p))) :
    (ReflectliteValue.method (ReflectliteValue.valueError "reflectlite.Value.IsNil" 0) ReflectliteValue.isNil #[.agg #[.pointer (some ⟨2, 209, none⟩), .pointer (some a), .int .u64 150]]).run Tryz.prog W = .ok (.bool false) W := by
  rw [rlm]
  simp only [Sem.run_bind, Tas_parts27, Result.andThen]
  simp [ReflectliteValue.isNil, loadVar, isAgg, underlying, Tryz.underlying209, ha, Result.andThen]

theorem Tas_methodElem (h : Value) (w : World) : (Go.method 460 294 (.agg #[h]) "Elem").run Tryz.prog w = .ok (293, .agg #[h]) w := by kernel_rfl
theorem Tas_methodImplements (h : Value) (w : World) : (Go.method 460 294 (.agg #[h]) "Implements").run Tryz.prog w = .ok (294, .agg #[h]) w := by kernel_rfl
theorem Tas_methodAssignableTo (h : Value) (w : World) : (Go.method 460 294 (.agg #[h]) "AssignableTo").run Tryz.prog w = .ok (291, .agg #[h]) w := by kernel_rfl
theorem Tas_elem27 (w : World) : (ReflectliteType.method ReflectliteType.elem #[.agg #[.pointer (some ⟨2, 209, none⟩)]]).run Tryz.prog w = .ok (.iface 294 (.agg #[.pointer (some ⟨2, 205, none⟩)])) w := by kernel_rfl
theorem Tas_implements25 (w : World) : (ReflectliteType.relation "Implements" ReflectliteType.implements_ #[.agg #[.pointer (some ⟨2, 205, none⟩)], .iface 294 (.agg #[.pointer (some ⟨2, 172, none⟩)])]).run Tryz.prog w = .ok (.bool true) w := by kernel_rfl
theorem Tas_typeOf25 (v : Value) (w : World) : (ReflectliteType.typeOf #[.iface 205 v]).run Tryz.prog w = .ok (.iface 294 (.agg #[.pointer (some ⟨2, 205, none⟩)])) w := by kernel_rfl
theorem Tas_assignable25 (w : World) : (ReflectliteType.relation "AssignableTo" ReflectliteType.assignableTo #[.agg #[.pointer (some ⟨2, 205, none⟩)], .iface 294 (.agg #[.pointer (some ⟨2, 205, none⟩)])]).run Tryz.prog w = .ok (.bool true) w := by kernel_rfl
theorem Tas_valueOf25 (e : Addr) (w : World) : (ReflectliteValue.unpack (.iface 205 (.pointer (some e)))).run Tryz.prog w
    = .ok (.agg #[.pointer (some ⟨2, 205, none⟩), .pointer (some ⟨w.heap.size, 0, none⟩), .int .u64 150]) (w.alloc (.cells #[.pointer (some e)] 205)) := by kernel_rfl

theorem Tas_elemOf27 (w : World) : (Rtype.elem? 209).run Tryz.prog w = .ok (some 205) w := by kernel_rfl
theorem Tas_mk25 (p : Addr) (w : World) : (ReflectliteValue.mk 205 p ReflectliteValue.flagAddr).run Tryz.prog w = .ok (.agg #[.pointer (some ⟨2, 205, none⟩), .pointer (some p), .int .u64 406]) w := by kernel_rfl
/-- (Value).Elem at the Value of a **p.E that is not nil: the Value of the *p.E variable that it points to, addressable. -/
theorem Tas_elemV27 (a p : Addr) (W : World) (ha : W.cell? a = some (.pointer (some p))) :
    (ReflectliteValue.method (ReflectliteValue.valueError "reflectlite.Value.Elem" 0) ReflectliteValue.elem #[.agg #[.pointer (some ⟨2, 209, none⟩), .pointer (some a), .int .u64 150]]).run Tryz.prog W
      = .ok (.agg #[.pointer (some ⟨2, 205, none⟩), .pointer (some p), .int .u64 406]) W := by
  rw [rlm]
  simp only [Sem.run_bind, Tas_parts27, Result.andThen]
  simp [ReflectliteValue.elem, loadVar, isAgg, underlying, Tryz.underlying209, ha, Result.andThen, Tas_elemOf27, Tas_mk25]
theorem rls (v x : Value) : ReflectliteValue.set #[v, x] = (do
    let (some (dst, a, fl), some (src, b, _)) := (← ReflectliteValue.parts v, ← ReflectliteValue.parts x)
      | unsupported (.noEntry "extern/(internal/reflectlite.Value).Set.zeroValue")
    if fl / ReflectliteValue.flagAddr % 2 == 0 then unsupported (.noEntry "extern/(internal/reflectlite.Value).Set.unaddressable")
    let val ← loadVar src b
    if ← Rtype.directlyAssignable dst src then storeVar dst a val
    else if ← Rtype.implements dst src then
      if (← Rtype.kind src) == 20 then
        match val with
        | .nilIface => unsupported (.noEntry "extern/reflectlite: a nil value of one interface type handed on as a value of another")
        | _ => storeVar dst a val
      else storeVar dst a (.iface src val)
    else panicString ("reflectlite.Set: value of type " ++ (← Rtype.spelt src) ++ " is not assignable to type " ++ (← Rtype.spelt dst))
    pure (.tuple #[])) := rfl
theorem Tas_parts25a (a : Addr) (w : World) : (ReflectliteValue.parts (.agg #[.pointer (some ⟨2, 205, none⟩), .pointer (some a), .int .u64 406])).run Tryz.prog w = .ok (some (205, a, 406)) w := by kernel_rfl
theorem Tas_parts25 (a : Addr) (w : World) : (ReflectliteValue.parts (.agg #[.pointer (some ⟨2, 205, none⟩), .pointer (some a), .int .u64 150])).run Tryz.prog w = .ok (some (205, a, 150)) w := by kernel_rfl
theorem Tas_direct25 (w : World) : (Rtype.directlyAssignable 205 205).run Tryz.prog w = .ok true w := by kernel_rfl
theorem Tas_size25 (w : World) : (sizeOf 205).run Tryz.prog w = .ok 1 w := by kernel_rfl
/-- (Value).Set: the *p.E variable at 'ta' gets what the Value's own variable 'b' holds. -/
theorem Tas_set25 (ta b e : Addr) (old : Value) (W : World) (hb : W.cell? b = some (.pointer (some e))) (ht : W.cell? ta = some old) (hf : W.frozen? ta = false) :
    (ReflectliteValue.set #[.agg #[.pointer (some ⟨2, 205, none⟩), .pointer (some ta), .int .u64 406], .agg #[.pointer (some ⟨2, 205, none⟩), .pointer (some b), .int .u64 150]]).run Tryz.prog W
      = .ok (.tuple #[]) (W.setCell ta (.pointer (some e))) := by
  rw [rls]
  simp only [Sem.run_bind, Tas_parts25a, Tas_parts25, Result.andThen]
  simp [ReflectliteValue.flagAddr, loadVar, isAgg, underlying, Tryz.underlying205, hb, Result.andThen, Tas_direct25, storeVar, Value.cells, storeCells, Addr.add]
  rw [run_store Tryz.prog W ta _ _ (by rfl)]
  simp [ht, hf]

set_option maxRecDepth 100000 in
set_option maxHeartbeats 4000000 in
theorem as_hit (e t : Addr) (old : Value) (w : World) (hg : w.cell? ⟨0, 0, none⟩ = some (.iface 294 (.agg #[.pointer (some ⟨2, 172, none⟩)]))) (ht0 : w.cell? t = some old) (hf0 : w.frozen? t = false) :
    Calls Tryz.prog 147 #[.iface 205 (.pointer (some e)), .iface 209 (.pointer (some t))] w fun ev w' => ev = .returned (.bool true) ∧ w' = ((((w.alloc (.cells #[.pointer (some t)] 209)).alloc (.cells #[.pointer (some ⟨2, 209, none⟩), .pointer (some ⟨w.heap.size, 0, none⟩), .int .u64 150] 253)).alloc (.cells #[.pointer (some ⟨2, 209, none⟩), .pointer (some ⟨w.heap.size, 0, none⟩), .int .u64 150] 253)).alloc (.cells #[.pointer (some e)] 205)).setCell t (.pointer (some e)) := by
  have h6 := @run_callFunc_extern Tryz.prog 174 _ (fun args => ReflectliteValue.unpack (args.getD 0 (.tuple #[]))) Tryz.func174 (by kernel_rfl) (by kernel_rfl) (by kernel_rfl) (by kernel_rfl)
  have h7 := @run_callFunc_extern Tryz.prog 175 _ (ReflectliteValue.methodAny (ReflectliteValue.valueError "reflectlite.Value.Type" 0) (fun t _ _ _ => ReflectliteType.toType t)) Tryz.func175 (by kernel_rfl) (by kernel_rfl) (by kernel_rfl) (by kernel_rfl)
  have h8 := @run_callFunc_extern Tryz.prog 176 _ (ReflectliteValue.method (ReflectliteValue.valueError "reflectlite.Value.IsNil" 0) ReflectliteValue.isNil) Tryz.func176 (by kernel_rfl) (by kernel_rfl) (by kernel_rfl) (by kernel_rfl)
  have h27 := @run_callFunc_extern Tryz.prog 256 _ (ReflectliteType.abiMethod fun t => do pure (.int .u8 (← Rtype.kind t))) Tryz.func256 (by kernel_rfl) (by kernel_rfl) (by kernel_rfl) (by kernel_rfl)
  have h37 := @run_callFunc_extern Tryz.prog 293 _ (ReflectliteType.method ReflectliteType.elem) Tryz.func293 (by kernel_rfl) (by kernel_rfl) (by kernel_rfl) (by kernel_rfl)
  have h38 := @run_callFunc_extern Tryz.prog 294 _ (ReflectliteType.relation "Implements" ReflectliteType.implements_) Tryz.func294 (by kernel_rfl) (by kernel_rfl) (by kernel_rfl) (by kernel_rfl)
  have h10 := @run_callFunc_extern Tryz.prog 217 _ ReflectliteType.typeOf Tryz.func217 (by kernel_rfl) (by kernel_rfl) (by kernel_rfl) (by kernel_rfl)
  have h35 := @run_callFunc_extern Tryz.prog 291 _ (ReflectliteType.relation "AssignableTo" ReflectliteType.assignableTo) Tryz.func291 (by kernel_rfl) (by kernel_rfl) (by kernel_rfl) (by kernel_rfl)
  have h11 := @run_callFunc_extern Tryz.prog 218 _ (ReflectliteValue.method (ReflectliteValue.valueError "reflectlite.Value.Elem" 0) ReflectliteValue.elem) Tryz.func218 (by kernel_rfl) (by kernel_rfl) (by kernel_rfl) (by kernel_rfl)
  have h12 := @run_callFunc_extern Tryz.prog 219 _ ReflectliteValue.set Tryz.func219 (by kernel_rfl) (by kernel_rfl) (by kernel_rfl) (by kernel_rfl)
  have tO := Tas_typeOf25
  have mA := Tas_methodAssignableTo
  have a25 := Tas_assignable25
  have v25 := Tas_valueOf25
  have f6 := Tas_valueOf27
  have f7 := Tas_type27
  have mK := Tas_methodKind
  have mE := Tas_methodElem
  have mI := Tas_methodImplements
  have k27 := Tas_kind27
  have k25 := Tas_kind25
  have e27 := Tas_elem27
  have i25 := Tas_implements25
  have n8 := Tas_isNil27 ⟨w.heap.size, 0, none⟩ t ((w.alloc (.cells #[.pointer (some t)] 209)).alloc (.cells #[.pointer (some ⟨2, 209, none⟩), .pointer (some ⟨w.heap.size, 0, none⟩), .int .u64 150] 253)) (by simp)
  have hlt : 0 < w.heap.size := by
    rcases Nat.eq_zero_or_pos w.heap.size with h0 | h
    · simp [World.cell?, h0] at hg
    · exact h
  have hg2 : ((w.alloc (.cells #[.pointer (some t)] 209)).alloc (.cells #[.pointer (some ⟨2, 209, none⟩), .pointer (some ⟨w.heap.size, 0, none⟩), .int .u64 150] 253)).cell? ⟨0, 0, none⟩ = some (.iface 294 (.agg #[.pointer (some ⟨2, 172, none⟩)])) := by
    rw [World.cell?_alloc_lt _ _ ⟨0, 0, none⟩ (by simp), World.cell?_alloc_lt _ _ ⟨0, 0, none⟩ hlt]; exact hg
  have htl : t.block < w.heap.size := by
    rcases Nat.lt_or_ge t.block w.heap.size with h | h
    · exact h
    · simp [World.cell?, Array.getElem?_eq_none h] at ht0
  have el := Tas_elemV27 ⟨w.heap.size, 0, none⟩ t (((w.alloc (.cells #[.pointer (some t)] 209)).alloc (.cells #[.pointer (some ⟨2, 209, none⟩), .pointer (some ⟨w.heap.size, 0, none⟩), .int .u64 150] 253)).alloc (.cells #[.pointer (some ⟨2, 209, none⟩), .pointer (some ⟨w.heap.size, 0, none⟩), .int .u64 150] 253)) (by rw [World.cell?_alloc_lt _ _ ⟨w.heap.size, 0, none⟩ (by simp; omega)]; simp)
  have st := Tas_set25 t ⟨w.heap.size + 1 + 1 + 1, 0, none⟩ e old ((((w.alloc (.cells #[.pointer (some t)] 209)).alloc (.cells #[.pointer (some ⟨2, 209, none⟩), .pointer (some ⟨w.heap.size, 0, none⟩), .int .u64 150] 253)).alloc (.cells #[.pointer (some ⟨2, 209, none⟩), .pointer (some ⟨w.heap.size, 0, none⟩), .int .u64 150] 253)).alloc (.cells #[.pointer (some e)] 205))
    (by rw [World.cell?_alloc_at _ _ _ _ (by simp)]; rfl)
    (by rw [World.cell?_alloc_lt _ _ t (by simp; omega), World.cell?_alloc_lt _ _ t (by simp; omega), World.cell?_alloc_lt _ _ t (by simp; omega), World.cell?_alloc_lt _ _ t htl]; exact ht0)
    (by rw [World.frozen?_alloc_old _ _ t (by simp; omega), World.frozen?_alloc_old _ _ t (by simp; omega), World.frozen?_alloc_old _ _ t (by simp; omega), World.frozen?_alloc_old _ _ t (Nat.ne_of_lt htl)]; exact hf0)
  go_enter Tryz.func147, Tryz.ntmps147
  go_wp2
  refine wp_loop_rounds 1 ?_
  rw [rounds_succ]
  go_wp2
  go_ret
  exact ⟨rfl, rfl⟩
end Go.Proofs.YtekgngedamnmaaaGreatDoor.L
