import Derived.Test.YtcbhkeinmdobhaaDoorSg
import Derived.Test.YtcbhkeinmdobhaaDoorMc
namespace Go.Proofs.YtcbhkeinmdobhaaDoor
open Go.ChangeShapes Go.WideShapes Go.ChangeAt Go.RowKit
set_option linter.unusedVariables false
set_option linter.unusedSimpArgs false

/-- the two errors' variables and the search's limit, as far as a call asks -/
structure Errs (w : World) : Prop where
  e1 : ∃ ev, w.cell? ⟨1, 0, none⟩ = some ev ∧ (ev = .nilIface ∨ ∃ te pe, ev = .iface te pe)
  e2 : ∃ ev, w.cell? ⟨2, 0, none⟩ = some ev ∧ (ev = .nilIface ∨ ∃ te pe, ev = .iface te pe)
  m : ∃ m : Int, w.cell? ⟨4, 0, none⟩ = some (.int .i64 m)
theorem cell_lt {w : World} {a : Addr} {v : Value} (h : w.cell? a = some v) : a.block < w.heap.size := World.block_lt_of_cell? w _ h
theorem Errs.on {w w' : World} (h : Errs w) (hb : Below w.heap.size w w') : Errs w' := by
  obtain ⟨⟨a, ha, ha'⟩, ⟨b, hb', hb''⟩, ⟨m, hm⟩⟩ := h
  exact ⟨⟨a, (hb.cell (cell_lt ha)).trans ha, ha'⟩, ⟨b, (hb.cell (cell_lt hb')).trans hb', hb''⟩, ⟨m, (hb.cell (cell_lt hm)).trans hm⟩⟩

/-- the number beside ParseUint's error at eight bits -/
def puS (l : List UInt8) : Nat := match Lib.parseUintB 8 l with | .ok u => u | .range => 255 | _ => 0
def piS (l : List UInt8) : Int := match Lib.parseIntB 32 l with | .ok v => v | .range => Lib.intSat 32 l | _ => 0
theorem puS_le (l : List UInt8) : puS l ≤ 255 := by
  unfold puS
  split
  · rename_i u h
    exact Lib.parseUintB_le h
  · omega
  · omega
theorem bytes_below (w : World) (s : ByteArray) : Below w.heap.size w (Lib.bytesWorld w 5 s) := ⟨rfl, rfl, rfl, by rw [Lib.bytesWorld_size]; omega, fun j hj => Lib.bytesWorld_at_old _ _ _ j hj⟩
theorem parseU (s : ByteArray) (hs : s.size ≤ 2000000) (w : World) (E : Errs w) :
    Calls Tryd.prog 40 #[.string s, .int .i64 10, .int .i64 8] w fun e w' => (∃ er, e = .returned (.tuple #[.int .u64 (puS s.data.toList : Nat), er])) ∧ Below w.heap.size w w' := by
  obtain ⟨⟨a, ha, ha'⟩, ⟨b, hb', hb''⟩, _⟩ := E
  rcases h : Lib.parseUintB 8 s.data.toList with u | _ | _
  · have e : puS s.data.toList = u := by unfold puS; rw [h]
    rw [e]
    refine (Tryd.strconv_ParseUint_10_at8_ok s (by omega) u h w).mono fun e w' h2 => ⟨⟨_, h2.1⟩, ?_⟩
    rcases h2.2 with rfl | rfl
    · exact Below.refl _ _
    · exact bytes_below w s
  · have e : puS s.data.toList = 0 := by unfold puS; rw [h]
    rw [e]
    refine (Any.strconv_ParseUint_10_at8_syntax Tryd.laysPu14 s (by omega) h a w ha ha').mono fun e w' h2 => ?_
    obtain ⟨N, h3, _, _, h4⟩ := h2
    exact ⟨⟨_, h3⟩, h4⟩
  · have e : puS s.data.toList = 255 := by unfold puS; rw [h]
    rw [e]
    refine (Tryd.strconv_ParseUint_10_at8_range s (by omega) h b w hb' hb'').mono fun e w' h2 => ?_
    obtain ⟨N, h3, _, _, h4⟩ := h2
    exact ⟨⟨_, h3⟩, h4⟩
theorem parseI (s : ByteArray) (hs : s.size ≤ 2000000) (w : World) (E : Errs w) :
    Calls Tryd.prog 42 #[.string s, .int .i64 10, .int .i64 32] w fun e w' => (∃ er, e = .returned (.tuple #[.int .i64 (piS s.data.toList), er])) ∧ Below w.heap.size w w' := by
  obtain ⟨⟨a, ha, ha'⟩, ⟨b, hb', hb''⟩, _⟩ := E
  rcases h : Lib.parseIntB 32 s.data.toList with u | _ | _
  · have e : piS s.data.toList = u := by unfold piS; rw [h]
    rw [e]
    refine (Tryd.strconv_ParseInt_10_at32_ok s (by omega) u h w).mono fun e w' h2 => ⟨⟨_, h2.1⟩, ?_⟩
    rcases h2.2 with rfl | ⟨t, rfl⟩
    · exact Below.refl _ _
    · exact bytes_below w t
  · have e : piS s.data.toList = 0 := by unfold piS; rw [h]
    rw [e]
    refine (Any.strconv_ParseInt_10_at32_syntax Tryd.laysC174 s (by omega) h a w ha ha').mono fun e w' h2 => ?_
    obtain ⟨N, h3, _, _, h4⟩ := h2
    exact ⟨⟨_, h3⟩, h4⟩
  · have e : piS s.data.toList = Lib.intSat 32 s.data.toList := by unfold piS; rw [h]
    rw [e]
    refine (Tryd.strconv_ParseInt_10_at32_range s (by omega) h b w hb' hb'').mono fun e w' h2 => ?_
    obtain ⟨N, h3, _, _, h4⟩ := h2
    exact ⟨⟨_, h3⟩, h4⟩
end Go.Proofs.YtcbhkeinmdobhaaDoor
