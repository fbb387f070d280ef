/- What a listed table of flat data (numbers, bools, strings, arrays and structs of such) holds, cell by cell. -/
import Derived.Test.YtcbhkeinmdobhaaDoorRows
import Derived.Lib.LaidTab
import Derived.KernelRfl
namespace Go.Proofs.YtcbhkeinmdobhaaDoor.Flat
set_option linter.unusedVariables false
set_option linter.unusedSimpArgs false

def flatN {H : Type} : Nat → DataW H → List Value
  | 0, _ => []
  | _ + 1, .lit l => [l.value]
  | n + 1, .agg parts => parts.flatMap (flatN n)
  | _ + 1, _ => []

def tiles (P : Program) : Nat → List Field → Nat → Bool
  | off, [], n => off == n
  | off, f :: fs, n => f.offset == off && tiles P (off + P.cellsOf f.type) fs n

def flatT (P : Program) : Nat → TypeId → Bool
  | 0, _ => false
  | m + 1, t => match P.underlying t with
    | some .bool => true
    | some (.int _) => true
    | some .string => true
    | some (.struct fs) => tiles P 0 fs.toList (P.cellsOf t) && fs.toList.all fun f => flatT P m f.type
    | some (.array n e) => P.cellsOf t == n * P.cellsOf e && flatT P m e
    | _ => false

section
variable {H : Type} {enc : TypeId × Value → H} {P : Program} {w : World} {base : Nat} {sp : Nat → Bool} {held : Bool}

theorem fields_flat {m fuel : Nat} {cs : List Value} (ih : ∀ (t : TypeId) (cs : List Value) (d : DataW H) (p : List MemPlace), flatT P m t = true → DataW.trod enc P w base sp held fuel t cs = some (d, p) → cs = flatN m d) :
    ∀ (fs : List Field) (off n : Nat) (xs : List (DataW H × List MemPlace)), cs.length = n → tiles P off fs n = true → (fs.all fun f => flatT P m f.type) = true → off ≤ n →
      (fs.mapM fun f => DataW.trod enc P w base sp held fuel f.type ((cs.drop f.offset).take (P.cellsOf f.type))) = some xs → cs.drop off = (xs.map (·.1)).flatMap (flatN m) := by
  intro fs
  induction fs with
  | nil =>
    intro off n xs hn ht _ _ hx
    simp at hx
    subst hx
    simp [tiles] at ht
    subst ht
    simp [← hn]
  | cons f fs ihf =>
    intro off n xs hn ht ha ho hx
    rw [List.mapM_cons] at hx
    simp only [Option.bind_eq_bind, Option.bind_eq_some_iff, Option.pure_def, Option.some.injEq] at hx
    obtain ⟨x, hx1, xs', hx2, rfl⟩ := hx
    simp only [tiles, Bool.and_eq_true, beq_iff_eq] at ht
    obtain ⟨hoff, ht⟩ := ht
    simp only [List.all_cons, Bool.and_eq_true] at ha
    have e1 := ih _ _ x.1 x.2 ha.1 hx1
    rw [hoff] at e1
    have hle : off + P.cellsOf f.type ≤ n := by
      have : ∀ (fs : List Field) (a : Nat), tiles P a fs n = true → a ≤ n := by
        intro fs
        induction fs with
        | nil => intro a h; simp [tiles] at h; omega
        | cons g gs ihg => intro a h; simp only [tiles, Bool.and_eq_true, beq_iff_eq] at h; have := ihg _ h.2; omega
      exact this _ _ ht
    have e2 := ihf (off + P.cellsOf f.type) n xs' hn ht ha.2 hle hx2
    simp only [List.map_cons, List.flatMap_cons]
    rw [← e1, ← e2, ← List.drop_drop, List.take_append_drop]

theorem elems_flat {m fuel c n : Nat} {e : TypeId} {cs : List Value} (hc : c = P.cellsOf e) (ih : ∀ (t : TypeId) (cs : List Value) (d : DataW H) (p : List MemPlace), flatT P m t = true → DataW.trod enc P w base sp held fuel t cs = some (d, p) → cs = flatN m d)
    (he : flatT P m e = true) (hn : cs.length = n * c) : ∀ (k j : Nat) (xs : List (DataW H × List MemPlace)), j + k = n →
      ((List.range' j k).mapM fun i => DataW.trod enc P w base sp held fuel e ((cs.drop (i * P.cellsOf e)).take (P.cellsOf e))) = some xs → cs.drop (j * c) = (xs.map (·.1)).flatMap (flatN m) := by
  intro k
  induction k with
  | zero =>
    intro j xs hj hx
    simp at hx
    subst hx
    have : j = n := by omega
    subst this
    simp [← hn]
  | succ k ihk =>
    intro j xs hj hx
    rw [List.range'_succ, List.mapM_cons] at hx
    simp only [Option.bind_eq_bind, Option.bind_eq_some_iff, Option.pure_def, Option.some.injEq] at hx
    obtain ⟨x, hx1, xs', hx2, rfl⟩ := hx
    have e1 := ih _ _ x.1 x.2 he hx1
    have e2 := ihk (j + 1) xs' (by omega) hx2
    simp only [List.map_cons, List.flatMap_cons]
    rw [← e1, ← e2, ← hc, show (j + 1) * c = j * c + c from by rw [Nat.add_mul, Nat.one_mul], ← List.drop_drop, List.take_append_drop]

theorem trod_flat : ∀ (m fuel : Nat) (t : TypeId) (cs : List Value) (d : DataW H) (p : List MemPlace), flatT P m t = true → DataW.trod enc P w base sp held fuel t cs = some (d, p) → cs = flatN m d := by
  intro m
  induction m with
  | zero => intro fuel t cs d p h; simp [flatT] at h
  | succ m ih =>
    intro fuel t cs d p hf h
    cases fuel with
    | zero => simp [DataW.trod] at h
    | succ fuel =>
      unfold flatT at hf
      cases hu : P.underlying t with
      | none => simp [hu] at hf
      | some u =>
        cases u <;> simp only [hu] at hf <;> first | (exact Bool.noConfusion hf) | skip
        case bool =>
          unfold DataW.trod at h; rw [hu] at h
          split at h <;> simp_all
          obtain ⟨rfl, rfl⟩ := h
          rfl
        case int k =>
          obtain ⟨a, e, e2, _⟩ := DataW.trod_int hu h
          simp at e2
          rw [e, e2.1]; rfl
        case string =>
          unfold DataW.trod at h; rw [hu] at h
          split at h <;> simp_all
          obtain ⟨_, rfl, rfl⟩ := h
          rfl
        case struct fs =>
          unfold DataW.trod at h; rw [hu] at h
          simp only at h
          split at h
          · rename_i hl
            obtain ⟨xs, hm, hx⟩ := Option.map_eq_some_iff.1 h
            simp only [Prod.mk.injEq] at hx
            obtain ⟨rfl, _⟩ := hx
            simp only [Bool.and_eq_true] at hf
            have := fields_flat (m := m) (ih fuel) fs.toList 0 _ xs hl hf.1 hf.2 (Nat.zero_le _) hm
            simpa [flatN] using this
          · cases h
        case array n e =>
          unfold DataW.trod at h; rw [hu] at h
          simp only at h
          split at h
          · rename_i hl
            obtain ⟨xs, hm, hx⟩ := Option.map_eq_some_iff.1 h
            simp only [Prod.mk.injEq] at hx
            obtain ⟨rfl, _⟩ := hx
            simp only [Bool.and_eq_true, beq_iff_eq] at hf
            rw [List.range_eq_range'] at hm
            have := elems_flat (m := m) rfl (ih fuel) hf.2 (hl.trans hf.1) n 0 xs (by omega) hm
            simpa [flatN] using this
          · cases h

def VarReads (P : Program) (w : World) (n : String) (d : DataW Unit) : Prop :=
  ∃ g t cs fuel p, P.globalNamed n = some g ∧ (P.globals[g]?).map (·.type) = some t ∧ w.var? P n = some cs ∧ DataW.trod (fun _ => ()) P w 0 (fun _ => true) false fuel t cs.toList = some (d, p)
theorem LaidVars_reads {P : Program} {w : World} : ∀ {l : List (String × DataW Unit)} {ps : List MemPlace}, DataW.LaidVars P w l ps → ∀ n d, (n, d) ∈ l → VarReads P w n d
  | [], _, _, _, _, hm => by cases hm
  | (n', d') :: r, ps, h, n, d, hm => by
    obtain ⟨g, t, cs, fuel, p, q, h1, h2, h3, h4, h5, _⟩ := h
    rcases List.mem_cons.1 hm with e | e
    · cases e
      exact ⟨g, t, cs, fuel, p, h1, h2, h3, h4⟩
    · exact LaidVars_reads h5 n d e
theorem plainMet {P : Program} {l : List (String × DataW Unit)} {w : World} (hp : (l.all fun x => x.2.handleName?.isNone) = true) (h : laidMetH P l w) : laidMet P l w := by
  have hn : (l.filter fun x => x.2.handleName?.isSome) = [] := by
    rw [List.filter_eq_nil_iff]
    intro x hx
    have := List.all_eq_true.1 hp x hx
    cases hh : x.2.handleName? <;> simp_all
  unfold laidMetH at h
  rw [hn] at h
  exact h
/-- of one listed variable: its cells are the flattened datum -/
theorem var_flat {W : World} {m g : Nat} {t : TypeId} {name : String} {D : DataW Unit} {l : List (String × DataW Unit)} (hp : (l.all fun x => x.2.handleName?.isNone) = true) (h : laidMetH P l W) (hx : (name, D) ∈ l)
    (hg : P.globalNamed name = some g) (hty : (P.globals[g]?).map (·.type) = some t) (hf : flatT P m t = true) {L : List Value} (hD : flatN m D = L) : ∀ (i : Nat) (v : Value), L[i]? = some v → W.cell? ⟨g, i, none⟩ = some v := by
  obtain ⟨ps, hlv, _⟩ := plainMet hp h
  obtain ⟨g', t', cs, fuel, p, hg', ht', hvar, hd⟩ := LaidVars_reads hlv _ _ hx
  obtain rfl := Option.some.inj (hg.symm.trans hg')
  obtain rfl := Option.some.inj (hty.symm.trans ht')
  have e := trod_flat m fuel _ _ _ _ hf hd
  intro i v hv
  rw [← hD, ← e] at hv
  have := World.var?_cell hg hvar i
  rw [this]
  simpa using hv
end
end Go.Proofs.YtcbhkeinmdobhaaDoor.Flat
