import Derived.Test.YtcbhkeinmdobhaaDoorOd
import Derived.Test.YtcbhkeinmdobhaaDoorMa
import Derived.Maps.RangeWalk
namespace Go.Proofs.YtcbhkeinmdobhaaDoor
open Go.ChangeShapes Go.WideShapes Go.ChangeAt Go.RowKit
set_option linter.unusedVariables false
set_option linter.unusedSimpArgs false

/-- the worlds of a region that draws its order: what is below the region's mark, what is below the call's mark, the five cells of a block of the call's own -/
def CX (w0 w : World) (g : Nat) (x : Array Value) (w' : World) : Prop :=
  Below w.heap.size w w' ∧ Below w0.heap.size w0 w' ∧ g < w.heap.size ∧ w'.cell? ⟨g, 0, none⟩ = some (x.getD 0 undef) ∧ w'.cell? ⟨g, 1, none⟩ = some (x.getD 1 undef) ∧ w'.cell? ⟨g, 2, none⟩ = some (x.getD 2 undef) ∧ w'.cell? ⟨g, 3, none⟩ = some (x.getD 3 undef) ∧ w'.cell? ⟨g, 4, none⟩ = some (x.getD 4 undef)
theorem CX.call {w0 w w' w'' : World} {g : Nat} {x : Array Value} (h : CX w0 w g x w') (hb : Below w'.heap.size w' w'') : CX w0 w g x w'' := by
  obtain ⟨h1, h2, h3, c0, c1, c2, c3, c4⟩ := h
  have hg : g < w'.heap.size := Nat.lt_of_lt_of_le h3 h1.size
  exact ⟨h1.trans (hb.mono h1.size), h2.trans (hb.mono h2.size), h3, (hb.cell (p := ⟨g, 0, none⟩) hg).trans c0, (hb.cell (p := ⟨g, 1, none⟩) hg).trans c1, (hb.cell (p := ⟨g, 2, none⟩) hg).trans c2, (hb.cell (p := ⟨g, 3, none⟩) hg).trans c3, (hb.cell (p := ⟨g, 4, none⟩) hg).trans c4⟩
theorem CX.again {w0 w w' : World} {g : Nat} {x : Array Value} (h : CX w0 w g x w') : CX w0 w' g x w' := by
  obtain ⟨h1, h2, h3, c⟩ := h
  exact ⟨Below.refl _ _, h2, Nat.lt_of_lt_of_le h3 h1.size, c⟩
theorem wp_region_x {P : Program} {id : Nat} {Q : Exit → Act → World → Prop} {a : Act} {w0 w : World} {g : Nat} {x : Array Value} {l : List Oper} (hm : P.follows .mixedOrders = true) (hB : Region.lexB .any l.toArray = true) (hx : CX w0 w g x w)
    (h : wpQuiet P l.toArray (CX w0 w g x) (fun a' => ∀ w', CX w0 w g x w' → Q .normal a' w') l a) : (Code.region id l.toArray true).wp P Q a w :=
  wp_region_quiet (C := CX w0 w g x) hm hB ⟨hx.1.drew, hx.2.1.drew, hx.2.2.1, hx.2.2.2⟩ (by simpa using h)
end Go.Proofs.YtcbhkeinmdobhaaDoor
