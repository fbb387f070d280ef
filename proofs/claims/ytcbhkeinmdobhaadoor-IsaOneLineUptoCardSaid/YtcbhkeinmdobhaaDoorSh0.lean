import Derived.Test.YtcbhkeinmdobhaaDoorRj
import Derived.Deep.Draws
import Derived.Deep.AppendLies
import Derived.Maps.AppendAt
import Derived.OwnWalk
import Derived.Laws.OwnMore
import Derived.Deep.OwnRows
import Derived.Laws.Rows
import Derived.Lib.ConvBytes
import Derived.Lib.AppendIntMem
import Derived.Lib.Join
namespace Go.Proofs.YtcbhkeinmdobhaaDoor
open Go.ChangeShapes Go.WideShapes Go.ChangeAt Go.RowKit
set_option linter.unusedVariables false
set_option linter.unusedSimpArgs false

theorem str_info : (Tryd.prog.info? 9).map (fun i => (i.zero, i.size, i.bytes)) = some (some (.string ⟨#[]⟩), 1, 16) := by kernel_rfl
theorem ownsB {B : Nat} {e : TypeId} {k : Nat} {v : Value} {n : Nat} {xs : List Value} {w w' : World} (h : w.ownsRow B e k v n xs) (hb : Below w.heap.size w w') : w'.ownsRow B e k v n xs :=
  h.kept (row := none) ⟨hb.os, hb.tape, hb.output, hb.size, fun j hj _ => hb.block j hj⟩ (by cases hv : v.ownBlock <;> simp)
/-- words of the call's own, from the world w0 on; the blocks below B and the block bb are as they were -/
structure Row (w0 : World) (B bb : Nat) (W : World) (v : Value) (xs : List ByteArray) : Prop where
  own : W.ownsRow B 9 1 v xs.length (xs.map Value.string)
  below : Below B w0 W
  keep : ∀ o, W.cell? ⟨bb, o, none⟩ = w0.cell? ⟨bb, o, none⟩
  ne : v.ownBlock ≠ some bb
  lt : bb < w0.heap.size
  le : B ≤ w0.heap.size
  small : ∀ x ∈ xs, x.size ≤ 100

theorem Row.x {w0 W : World} {B bb : Nat} {v : Value} {xs : List ByteArray} (h : Row w0 B bb W v xs) {b o : Nat} {u : Value} (hb : b < B) (hc : w0.cell? ⟨b, o, none⟩ = some u) : W.cell? ⟨b, o, none⟩ = some u := (h.below.cell (p := ⟨b, o, none⟩) hb).trans hc
theorem Row.b {w0 W : World} {B bb : Nat} {v : Value} {xs : List ByteArray} (h : Row w0 B bb W v xs) {o : Nat} {u : Value} (hc : w0.cell? ⟨bb, o, none⟩ = some u) : W.cell? ⟨bb, o, none⟩ = some u := (h.keep o).trans hc
theorem Row.on {w0 W W' : World} {B bb : Nat} {v : Value} {xs : List ByteArray} (h : Row w0 B bb W v xs) (hb : Below W.heap.size W W') : Row w0 B bb W' v xs :=
  ⟨ownsB h.own hb, h.below.trans (hb.mono (by have := h.below.size; have := h.le; omega)), fun o => (hb.cell (p := ⟨bb, o, none⟩) (by have := h.below.size; have := h.lt; show bb < _; omega)).trans (h.keep o), h.ne, h.lt, h.le, h.small⟩

theorem app1 {ops : Array Oper} {rest : List Oper} {o : Oper} {a : Act} {Q : Exit → Act → World → Prop} {w0 W : World} {B bb : Nat} {v : Value} {xs : List ByteArray} (HR : Row w0 B bb W v xs) (hgd : o.guard = none) (s x : Operand)
    (ho : o.op = .call { callee := .builtin .append, args := #[s, x], argTypes := #[47, 47] }) (y : ByteArray) (hs : a.eval s = v) (hx : a.eval x = .slice (some ⟨W.heap.size, 0, none⟩) 1 1) (hl : xs.length ≤ 1000) (hy : y.size ≤ 100)
    (h : ∀ v1 w1, Row w0 B bb w1 v1 (xs ++ [y]) → wpList Tryd.prog ops Q rest (a.put o.dst v1) w1) :
    wpList Tryd.prog ops Q (o :: rest) a (W.alloc (.cells #[.string y] 9)) := by
  obtain ⟨i0, hi, hzz⟩ := Option.map_eq_some_iff.1 str_info
  simp only [Prod.mk.injEq] at hzz
  obtain ⟨hz0, hz1, hz2⟩ := hzz
  have hsz : B ≤ W.heap.size := by have := HR.below.size; have := HR.le; omega
  refine wpList_append_own_at (W.alloc (.cells #[.string y] 9)) hgd s x 47 ho B 9 i0 (.string ⟨#[]⟩) 1 16 Tryd.underlying47 hi hz0 hz1 hz2 rfl (by omega) v xs.length (xs.map Value.string) hs (HR.own.alloc _) ⟨W.heap.size, 0, none⟩ 1 1 [.string y] hx rfl
    (World.news_of_block (cs := #[.string y]) (t := 9) (fr := (0, 0)) (heap_alloc_new W _)) (by simp [Value.oneCell']) (by simp only [maxLen]; omega) (by omega) (by simp; omega) ?_
  intro v1 w1 hown hg _ hat
  have hlt : ∀ k, v.ownBlock = some k → B ≤ k ∧ k < W.heap.size := HR.own.lt
  have hbb : bb < W.heap.size := by have := HR.below.size; have := HR.lt; omega
  refine h v1 w1 ⟨by simpa using hown, (HR.below.alloc hsz _).grown hg (by simp; omega) (fun k hk => (hlt k hk).1), fun o => ?_, ?_, HR.lt, HR.le, ?_⟩
  · rw [World.cell?_of_block (a := ⟨bb, o, none⟩) (hg.block bb (by simp; omega) (fun e => HR.ne e.symm)), World.cell?_alloc_lt _ _ _ (by exact hbb)]
    exact HR.keep o
  · rcases hat with hat | hat
    · rw [hat]; exact HR.ne
    · rw [hat]; simp; omega
  · intro z hz
    rcases List.mem_append.1 hz with h1 | h1
    · exact HR.small z h1
    · rw [List.mem_singleton.1 h1]; exact hy

theorem conv1 {ops : Array Oper} {rest : List Oper} {o : Oper} {a : Act} {Q : Exit → Act → World → Prop} {w' : World} {nm : ByteArray} (hgd : o.guard = none) (x : Operand)
    (ho : o.op = .convert 9 51 x) (s : ByteArray) (hx : a.eval x = .string s) (hnm : nm.size ≤ 100)
    (h : ∀ cap w1, Row w1 w'.heap.size (w'.heap.size + 1) w1 (.slice (some ⟨w'.heap.size, 0, none⟩) 1 1) [nm] → Below w'.heap.size w' w1 → (∀ j, j < s.size → w1.cell? ⟨w'.heap.size + 1, j, none⟩ = some (.int .u8 (s.data.toList.getD j 0).toNat)) → wpList Tryd.prog ops Q rest (a.put o.dst (.slice (some ⟨w'.heap.size + 1, 0, none⟩) s.size cap)) w1) :
    wpList Tryd.prog ops Q (o :: rest) a (w'.alloc (.cells #[.string nm] 9)) := by
  refine wpList_plain hgd fun K hK => ?_
  have hr := Lib.run_convert_string_bytes (P := Tryd.prog) (w'.alloc (.cells #[.string nm] 9)) 9 51 5 s Tryd.underlying9 Tryd.underlying51 Tryd.underlying5
  unfold Oper.wp execOp
  simp only [ho, Sem.run_bind, Sem.run_pure, Result.andThen_ok, hx, hr]
  have hs1 : (w'.alloc (.cells #[.string nm] 9)).heap.size = w'.heap.size + 1 := by simp
  have hb : Below (w'.heap.size + 1) (w'.alloc (.cells #[.string nm] 9)) (Lib.bytesWorld (w'.alloc (.cells #[.string nm] 9)) 5 s) := ⟨rfl, rfl, rfl, by rw [Lib.bytesWorld_size]; omega, fun j hj => Lib.bytesWorld_at_old _ _ _ j (by rw [hs1]; exact hj)⟩
  refine hK _ _ ?_
  rw [hs1]
  refine h _ _ ⟨?_, Below.refl _ _, fun _ => rfl, by simp [Value.ownBlock], by rw [Lib.bytesWorld_size, hs1]; omega, by rw [Lib.bytesWorld_size, hs1]; omega, by simpa using hnm⟩ ?_ ?_
  · have hl := World.ownsRow_lit (base := w'.heap.size) (e := 9) (size := 1) w' #[.string nm] 1 (Nat.le_refl _) (by simp [maxLen]) (by simp)
    exact ownsB (by simpa using hl) (by rw [hs1]; exact hb)
  · exact ((Below.refl _ _).alloc (Nat.le_refl _) _).trans (hb.mono (by omega))
  · intro j hj
    have := Lib.bytesWorld_cell (w'.alloc (.cells #[.string nm] 9)) 5 s j hj
    rw [hs1] at this
    exact this
theorem tab_below {w w' : World} (hz : 0 < w.heap.size) (hT : TabOk w) (hb : Below w.heap.size w w') : TabOk w' := fun i hi =>
  ⟨(hb.cell (p := ⟨0, i * 2, none⟩) hz).trans (hT i hi).1, (hb.cell (p := ⟨0, i * 2 + 1, none⟩) hz).trans (hT i hi).2⟩
theorem row_cells {w0 W : World} {B bb g cap : Nat} {xs : List ByteArray} (h : Row w0 B bb W (.slice (some ⟨g, 0, none⟩) xs.length cap) xs) : ∀ (j : Nat) x, xs[j]? = some x → W.cell? ⟨g, 0 + j, none⟩ = some (.string x) := by
  intro j x hx
  have := h.own.cells (g := g) rfl j (.string x) (by simp [hx])
  rwa [add_plain] at this
theorem row_cap {w0 W : World} {B bb g n cap : Nat} {xs : List ByteArray} (h : Row w0 B bb W (.slice (some ⟨g, 0, none⟩) n cap) xs) : xs.length ≤ cap := by
  rcases h.own.2 with ⟨h0, _⟩ | ⟨g', cap', cur, hv, _, _, hc, _⟩
  · cases h0
  · injection hv with _ _ h3
    omega
theorem pow10_below {w w' : World} (hP : Lib.TabIs Tryd.prog w "internal/strconv.uint64pow10" .u64 Lib.pow10Tab) (hb : Below w.heap.size w w') : Lib.TabIs Tryd.prog w' "internal/strconv.uint64pow10" .u64 Lib.pow10Tab := by
  unfold Lib.TabIs World.var? at hP ⊢
  cases hg : Tryd.prog.globalNamed "internal/strconv.uint64pow10" with
  | none => simp [hg] at hP
  | some g =>
    simp only [hg, Option.bind_some] at hP ⊢
    have hlt : g < w.heap.size := by
      rcases Nat.lt_or_ge g w.heap.size with h' | h'
      · exact h'
      · simp [Array.getElem?_eq_none h'] at hP
    rw [hb.block g hlt]
    exact hP
theorem nameB_size (i : Nat) (h1 : 1 ≤ i) (h2 : i ≤ 27) : (nameB i).size ≤ 100 := by
  have : i = 1 ∨ i = 2 ∨ i = 3 ∨ i = 4 ∨ i = 5 ∨ i = 6 ∨ i = 7 ∨ i = 8 ∨ i = 9 ∨ i = 10 ∨ i = 11 ∨ i = 12 ∨ i = 13 ∨ i = 14 ∨ i = 15 ∨ i = 16 ∨ i = 17 ∨ i = 18 ∨ i = 19 ∨ i = 20 ∨ i = 21 ∨ i = 22 ∨ i = 23 ∨ i = 24 ∨ i = 25 ∨ i = 26 ∨ i = 27 := by omega
  rcases this with rfl | rfl | rfl | rfl | rfl | rfl | rfl | rfl | rfl | rfl | rfl | rfl | rfl | rfl | rfl | rfl | rfl | rfl | rfl | rfl | rfl | rfl | rfl | rfl | rfl | rfl | rfl <;> decide
theorem tail_small : ∀ (r : List ByteArray), (∀ x ∈ r, x.size ≤ 100) → (Lib.joinTail [32] (r.map (·.data.toList))).length ≤ 101 * r.length
  | [], _ => by simp [Lib.joinTail]
  | y :: r, h => by
    have h1 := tail_small r fun x hx => h x (List.mem_cons_of_mem _ hx)
    have h2 : y.data.toList.length ≤ 100 := by simpa using h y (List.mem_cons_self ..)
    simp only [Lib.joinTail, List.map_cons, List.flatten_cons, List.length_append, List.length_cons, List.length_nil] at h1 ⊢
    omega
theorem join_small {xs : List ByteArray} (h : ∀ x ∈ xs, x.size ≤ 100) (hl : xs.length ≤ 1000) : (Lib.join (xs.map (·.data.toList)) [32]).length ≤ 140737488355328 := by
  cases xs with
  | nil => simp [Lib.join_nil]
  | cons y r =>
    have h1 := tail_small r fun x hx => h x (List.mem_cons_of_mem _ hx)
    have h2 : y.data.toList.length ≤ 100 := by simpa using h y (List.mem_cons_self ..)
    rw [List.map_cons, Lib.join_cons, List.length_append]
    simp only [List.length_cons] at hl
    omega
theorem rdig_size {d : ByteArray} (h : d.size ≤ 2) : (⟨#[114]⟩ ++ d : ByteArray).size ≤ 100 := by
  rw [ByteArray.size_append]
  show 1 + d.size ≤ 100
  omega
end Go.Proofs.YtcbhkeinmdobhaaDoor
