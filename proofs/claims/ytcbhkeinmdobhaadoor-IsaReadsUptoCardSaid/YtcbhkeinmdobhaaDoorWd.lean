import Derived.Test.YtcbhkeinmdobhaaDoorPn
import Derived.Test.YtcbhkeinmdobhaaDoorKn
import Derived.Lib.SplitLaws
namespace Go.Proofs.YtcbhkeinmdobhaaDoor
open Go.ChangeShapes Go.WideShapes Go.ChangeAt Go.RowKit
set_option linter.unusedVariables false
set_option linter.unusedSimpArgs false

/-- what stands between blanks -/
def wordsP (s : ByteArray) : List ByteArray := Lib.splitB ⟨#[32]⟩ 0 (Lib.countB s ⟨#[32]⟩) s
theorem wordsP_length (s : ByteArray) : (wordsP s).length = Lib.countB s ⟨#[32]⟩ + 1 := Lib.splitB_all ⟨#[32]⟩ (by decide) 0 _ s rfl
theorem split_c (s : ByteArray) (hs : s.size ≤ 2000000) (w : World) (E : Errs w) :
    Calls Tryd.prog 38 #[.string s, .string ⟨#[32]⟩] w fun e w' => e = .returned (.slice (some ⟨w.heap.size, 0, none⟩) (wordsP s).length (wordsP s).length) ∧ w' = w.alloc (.cells ((wordsP s).map Value.string).toArray 9) := by
  obtain ⟨m, hm⟩ := E.m
  rw [wordsP_length]
  exact Tryd.strings_Split s ⟨#[32]⟩ m w (by omega) hm (by decide)
theorem word_cell (W : World) (ws : List ByteArray) (k : Nat) (u : ByteArray) (h : ws[k]? = some u) : (W.alloc (.cells (ws.map Value.string).toArray 9)).cell? ⟨W.heap.size, k, none⟩ = some (.string u) :=
  new_cell W _ 9 k _ (by simp [h])
theorem tabBlk_laid {W : World} {l : List (String × DataW Unit)} (hp : (l.all fun x => x.2.handleName?.isNone) = true) (h : laidMetH Tryd.prog l W) (hx : ("bulkhead/isa.operations", Rows.laid_bulkhead_isa_operations) ∈ l) : TabBlk W := by
  obtain ⟨ps, hlv, _⟩ := Flat.plainMet hp h
  obtain ⟨g', t', cs, fuel, p, hg', ht', hvar, hd⟩ := Flat.LaidVars_reads hlv _ _ hx
  have hg : Tryd.prog.globalNamed "bulkhead/isa.operations" = some 0 := by kernel_rfl
  have hty : (Tryd.prog.globals[0]?).map (·.type) = some 46 := by kernel_rfl
  obtain rfl := Option.some.inj (hg.symm.trans hg')
  obtain rfl := Option.some.inj (hty.symm.trans ht')
  have e : cs.toList = (List.range' 0 28).flatMap fun i => [.string (nameB i), .string (shapeB i)] := (Flat.trod_flat 3 fuel _ _ _ _ (by kernel_rfl) hd).trans tab_flat
  unfold World.var? at hvar
  rw [hg, Option.bind_some] at hvar
  rcases hh : W.heap[0]? with _ | o
  · rw [hh] at hvar; cases hvar
  · cases o with
    | cells cs' t fr =>
      rw [hh] at hvar
      have hv : cs' = cs := by simpa using hvar
      have ht : cs = tabCells := Array.ext' (by rw [e]; simp [tabCells])
      exact ⟨t, fr, by rw [hh, hv, ht]⟩
    | _ => rw [hh] at hvar; cases hvar
theorem iface_cells {H : Type} {enc : TypeId × Value → H} {P : Program} {w : World} {base : Nat} {sp : Nat → Bool} {held : Bool} {fuel : Nat} {t : TypeId} {ms : Array (String × TypeId)} {cs : List Value} {d : DataW H} {p : List MemPlace} (ht : P.underlying t = some (.interface ms))
    (h : DataW.trod enc P w base sp held fuel t cs = some (d, p)) : ∃ v, cs = [v] ∧ (v = .nilIface ∨ ∃ u x, v = .iface u x) := by
  cases fuel with
  | zero => simp [DataW.trod] at h
  | succ n =>
    rcases cs with _ | ⟨v, _ | ⟨v2, r⟩⟩
    · simp [DataW.trod, ht] at h
    · refine ⟨v, rfl, ?_⟩
      cases v <;> first | exact .inl rfl | exact .inr ⟨_, _, rfl⟩ | (simp [DataW.trod, ht] at h)
    · simp [DataW.trod, ht] at h
theorem err_laid {W : World} {l : List (String × DataW Unit)} {nm : String} {D : DataW Unit} {g : Nat} (hp : (l.all fun x => x.2.handleName?.isNone) = true) (h : laidMetH Tryd.prog l W) (hx : (nm, D) ∈ l)
    (hg : Tryd.prog.globalNamed nm = some g) (hty : (Tryd.prog.globals[g]?).map (·.type) = some 65) : ∃ ev, W.cell? ⟨g, 0, none⟩ = some ev ∧ (ev = .nilIface ∨ ∃ te pe, ev = .iface te pe) := by
  obtain ⟨ps, hlv, _⟩ := Flat.plainMet hp h
  obtain ⟨g', t', cs, fuel, p, hg', ht', hvar, hd⟩ := Flat.LaidVars_reads hlv _ _ hx
  obtain rfl := Option.some.inj (hg.symm.trans hg')
  obtain rfl := Option.some.inj (hty.symm.trans ht')
  obtain ⟨v, hv, ho⟩ := iface_cells Tryd.underlying65 hd
  refine ⟨v, ?_, ho⟩
  have := World.var?_cell hg hvar 0
  rw [this, ← Array.getElem?_toList, hv]
  rfl
theorem errs_laid {w : World} {l : List (String × DataW Unit)} (h : w.ShapedOpen Tryd.prog) (hp : (l.all fun x => x.2.handleName?.isNone) = true) (hl : laidMetH Tryd.prog l w) (hx : ("strconv.ErrRange", Rows.laid_strconv_ErrRange) ∈ l) (hy : ("strconv.ErrSyntax", Rows.laid_strconv_ErrSyntax) ∈ l) : Errs w := by
  obtain ⟨m, hm⟩ := Tryd.laysM146.s1_3 w h
  exact ⟨err_laid hp hl hy (by kernel_rfl) (by kernel_rfl), err_laid hp hl hx (by kernel_rfl) (by kernel_rfl), ⟨m, hm⟩⟩
end Go.Proofs.YtcbhkeinmdobhaaDoor
