/- A region that draws its order, whose operations read what is below a mark and whose calls make memory above it: one walk in the order of the text. -/
import Derived.Test.YtcbhkeinmdobhaaDoorProg
import Derived.Deep.Quiet
import Derived.Deep.QuietTactic
import Derived.BigQuiet
import Derived.Below
import Derived.KernelRfl
namespace Go.Proofs.YtcbhkeinmdobhaaDoor.Float
open Go.RowKit
set_option linter.unusedVariables false

theorem wp_region_below {P : Program} {id : Nat} {Q : Exit → Act → World → Prop} {a : Act} {w : World} {l : List Oper} (hm : P.follows .mixedOrders = true) (hB : Region.lexB .any l.toArray = true)
    (h : wpQuiet P l.toArray (fun w' => Below w.heap.size w w') (fun a' => ∀ w', Below w.heap.size w w' → Q .normal a' w') l a) : (Code.region id l.toArray true).wp P Q a w :=
  wp_region_quiet (C := fun w' => Below w.heap.size w w') hm hB ((Below.refl _ _).drew) (by simpa using h)

section
variable {P : Program} {ops : Array Oper} {C : World → Prop} {Q : Act → Prop} {a : Act} {o : Oper} {rest : List Oper}
/-- one operation that is wanted: its value, in every world of the class -/
theorem step {v : Value} (hw : Region.wanted o (yielded ops a.tmps) = true) (h : ∀ w', C w' → o.quietAt P a C w' v) (hk : wpQuiet P ops C Q rest (a.put o.dst v)) : wpQuiet P ops C Q (o :: rest) a :=
  BigFrame.wpQuiet_want hw fun K hK => ⟨v, h, hK _ hk⟩
theorem step_ex (hw : Region.wanted o (yielded ops a.tmps) = true) (h : ∃ v, (∀ w', C w' → o.quietAt P a C w' v) ∧ wpQuiet P ops C Q rest (a.put o.dst v)) : wpQuiet P ops C Q (o :: rest) a :=
  let ⟨_, h1, h2⟩ := h
  step hw h1 h2
theorem skip (hw : Region.wanted o (yielded ops a.tmps) = false) (hk : wpQuiet P ops C Q rest (a.put o.dst undef)) : wpQuiet P ops C Q (o :: rest) a :=
  BigFrame.wpQuiet_skip hw hk
theorem value_at {v : Value} {w' : World} (h : (execOp a.eval o).run P w' = .ok (.value v) w') : o.quietAt P a C w' v := by
  unfold Oper.quietAt
  rw [h]
  exact ⟨rfl, rfl⟩
theorem call_at {v : Value} {w' : World} {f : FuncId} {args : Array Value} (h : (execOp a.eval o).run P w' = .ok (.enter f args) w') (hc : Calls P f args w' fun e w'' => e = .returned v ∧ C w'') : o.quietAt P a C w' v := by
  unfold Oper.quietAt
  rw [h]
  exact ⟨rfl, hc⟩
end
end Go.Proofs.YtcbhkeinmdobhaaDoor.Float
