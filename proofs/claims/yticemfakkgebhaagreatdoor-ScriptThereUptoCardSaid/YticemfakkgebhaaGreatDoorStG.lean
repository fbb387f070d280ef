import Derived.Test.YticemfakkgebhaaGreatDoorStN
import Derived.Test.YticemfakkgebhaaGreatDoorLiftC
import Derived.Lib.SlSplitV
import Derived.Lib.AppendIntMem
namespace Go.Proofs.YticemfakkgebhaaGreatDoor.L
open Go Go.Lift Go.RowKit
set_option linter.unusedVariables false
set_option linter.unusedSimpArgs false

/-- What the world must hold for the library. -/
structure GW (w : World) : Prop where
  t : Lib.TabIs Tryz.prog w "internal/strconv.uint64pow10" .u64 Lib.pow10Tab
  m : ∃ m : Int, w.cell? ⟨1, 0, none⟩ = some (.int .i64 m)
theorem GW.below {w w' : World} (h : GW w) (hb : Below w.heap.size w w') : GW w' :=
  ⟨Lib.tabBelow_of_tabIs h.t w' hb, by obtain ⟨m, hm⟩ := h.m; exact ⟨m, (hb.cell (World.block_lt_of_cell? w _ hm)).trans hm⟩⟩

theorem ok34 : FnOk Tryz.prog GW 34 ⟨s34, d34⟩ := by
  refine fnOk_of rfl fun k (x : Int × Unit) r hr w S vs hG ⟨v0, vs0, e0, h0, hv⟩ => ?_
  obtain ⟨rfl, _⟩ := hv
  subst e0
  obtain rfl := val_int h0
  have hr : d34 k x = some r := hr
  unfold d34 at hr
  split at hr <;> try (cases hr; done)
  rename_i hb
  obtain rfl := Option.some.inj hr
  exact (Tryz.strconv_Itoa x.1 hb.1 hb.2 w hG.t).mono fun e w' h2 => ⟨[.string _], [], h2.1, by obtain ⟨k, os, rfl⟩ := h2.2; exact Lib.below_grow _ _ (Nat.le_refl _) k os, List.nodup_nil, by simp, ⟨_, [], rfl, res_str _ _ _, rfl, rfl⟩⟩
theorem ok35 : FnOk Tryz.prog GW 35 ⟨s35, d35⟩ := by
  refine fnOk_of rfl fun k (x : Int × Int × Unit) r hr w S vs hG ⟨v0, vs0, e0, h0, v1, vs1, e1, h1, hv⟩ => ?_
  obtain ⟨rfl, _⟩ := hv
  subst e1 e0
  obtain rfl := val_int h0
  obtain rfl := val_int h1
  have hr : d35 k x = some r := hr
  unfold d35 at hr
  split at hr <;> try (cases hr; done)
  rename_i hb
  obtain rfl := Option.some.inj hr
  obtain ⟨x0, x1, u⟩ := x
  obtain ⟨hb0, hb⟩ := hb
  have hb0 : x1 = 10 := hb0
  subst hb0
  exact (Tryz.strconv_FormatInt_10 x0 hb.1 hb.2 w hG.t).mono fun e w' h2 => ⟨[.string _], [], h2.1, by obtain ⟨k, os, rfl⟩ := h2.2; exact Lib.below_grow _ _ (Nat.le_refl _) k os, List.nodup_nil, by simp, ⟨_, [], rfl, res_str _ _ _, rfl, rfl⟩⟩
theorem ok36 : FnOk Tryz.prog GW 36 ⟨s36, d36⟩ := by
  refine fnOk_of rfl fun k (x : List ByteArray × ByteArray × Unit) r hr w S vs hG ⟨v0, vs0, e0, h0, v1, vs1, e1, h1, hv⟩ => ?_
  obtain ⟨rfl, _⟩ := hv
  subst e1 e0
  obtain ⟨A, cap, rfl, hc, hx⟩ := val_sl (k := .str) rfl h0
  obtain rfl := val_str h1
  have hr : d36 k x = some r := hr
  unfold d36 at hr
  split at hr <;> try (cases hr; done)
  rename_i hb
  obtain rfl := Option.some.inj hr
  obtain ⟨xs, sep, u⟩ := x
  have fin : ∀ e w', (e = Ending.returned (.string ⟨(joinL xs sep).toArray⟩) ∧ Below w.heap.size w w') → ∃ us F', e = .returned (tup us) ∧ Below w.heap.size w w' ∧ F'.Nodup ∧ (∀ b ∈ F', w.heap.size ≤ b) ∧ ResR w' (After S [] w.heap.size F') s36.rs ((⟨(joinL xs sep).toArray⟩ : ByteArray), ()) us F' :=
    fun e w' h2 => ⟨[.string _], [], h2.1, h2.2, List.nodup_nil, by simp, ⟨_, [], rfl, res_str _ _ _, rfl, rfl⟩⟩
  cases xs with
  | nil => exact (Tryz.strings_Join_none A cap sep w).mono fun e w' h2 => fin e w' ⟨h2.1, by rw [h2.2]; exact Below.refl _ _⟩
  | cons y ys =>
    rcases hx with ⟨hx, _⟩ | ⟨b, o, rfl, _, hlt, hcell⟩
    · cases hx
    · exact (Tryz.strings_Join b o cap (y :: ys) sep w (fun j z hj => hcell j _ (by rw [List.getElem?_map]; erw [hj]; rfl)) hlt hb.1 hc.1 hb.2).mono fin
theorem ok53 : FnOk Tryz.prog GW 53 ⟨s53, d53⟩ := by
  refine fnOk_of rfl fun k (x : ByteArray × Unit) r hr w S vs hG ⟨v0, vs0, e0, h0, hv⟩ => ?_
  obtain ⟨rfl, _⟩ := hv
  subst e0
  obtain rfl := val_str h0
  have hr : d53 k x = some r := hr
  unfold d53 at hr
  obtain rfl := Option.some.inj hr
  exact (number_calls x.1 _ w rfl).mono fun e w' h2 => ⟨[.int .i64 _], [], h2.1, h2.2, List.nodup_nil, by simp, ⟨_, [], rfl, res_int _ _ _ _, rfl, rfl⟩⟩
theorem ok52 : FnOk Tryz.prog GW 52 ⟨s52, d52⟩ := by
  refine fnOk_of rfl fun k (x : ByteArray × ByteArray × Int × Unit) r hr w S vs hG ⟨v0, vs0, e0, h0, v1, vs1, e1, h1, v2, vs2, e2, h2, hv⟩ => ?_
  obtain ⟨rfl, _⟩ := hv
  subst e2 e1 e0
  obtain rfl := val_str h0
  obtain rfl := val_str h1
  obtain rfl := val_int h2
  have hr : d52 k x = some r := hr
  unfold d52 at hr
  split at hr <;> try (cases hr; done)
  rename_i hb
  obtain rfl := Option.some.inj hr
  obtain ⟨s, sep, n, u⟩ := x
  obtain ⟨b1, b2, b3, b4⟩ := hb
  have b1 : s.size < 4294967281 := b1
  have b2 : 1 ≤ sep.size := b2
  have b3 : (1 : Int) ≤ n := b3
  have b4 : n ≤ (9223372036854775807 : Int) := b4
  obtain ⟨n, rfl⟩ := Int.eq_ofNat_of_zero_le (show 0 ≤ n by omega)
  obtain ⟨m, hm⟩ := hG.m
  refine (Tryz.strings_SplitN s sep n m w b1 hm b2 (by omega) (by omega)).mono fun e w' h2 => ?_
  obtain ⟨rfl, rfl⟩ := h2
  have hle := Lib.splitB_length_le sep 0 (min n (s.size + 1) - 1) s
  show ∃ us F', _ ∧ _ ∧ _ ∧ _ ∧ ResR _ _ s52.rs (Lib.splitB sep 0 (min (Int.toNat (n : Int)) (s.size + 1) - 1) s, ()) us F'
  rw [Int.toNat_natCast]
  generalize hl : Lib.splitB sep 0 (min n (s.size + 1) - 1) s = l at hle
  have hle : l.length ≤ min n (s.size + 1) := by omega
  refine ⟨[_], [w.heap.size], rfl, Below.alloc (Below.refl _ _) (Nat.le_refl _) _, by simp, by simp, ⟨_, [], [w.heap.size], [], rfl, by simp, ⟨_, rfl, .inr ⟨w.heap.size, min n (s.size + 1), _, [], rfl, rfl, heap_alloc_new' _ _, ?_, ⟨hle, by omega⟩, ?_⟩⟩, rfl, rfl⟩⟩
  · rw [Lib.cellsOf_size hle]; simp [Kt.size]
  · have : ((Lib.cellsOf l (min n (s.size + 1))).toList.take (List.length l * Kt.str.size)) = l.map (enc1 .str) := by
      unfold Lib.cellsOf
      simp only [Kt.size, Nat.mul_one]
      rw [List.take_append_of_le_length (by simp), List.take_of_length_le (by simp)]
      rfl
    rw [this]
    exact rzl_atom_mk (k := .str) rfl l

theorem u8s_eq (l : List Int) : u8s l = Lib.bytesOf l := rfl
theorem byteL_spec {l : List Int} (h : byteL l = true) : ∀ x ∈ l, 0 ≤ x ∧ x < 256 := by
  intro x hx
  have := List.all_eq_true.1 h x hx
  simpa using this
theorem u8i_part (xs : List Int) (h : byteL xs = true) (off len : Nat) : u8i (((u8s xs).drop off).take len) = (xs.drop off).take len := by
  unfold u8i u8s
  rw [← List.map_drop, ← List.map_take, List.map_map]
  conv => rhs; rw [← List.map_id ((xs.drop off).take len)]
  refine List.map_congr_left fun x hx => ?_
  have := byteL_spec h x (List.mem_of_mem_drop (List.mem_of_mem_take hx))
  simp only [Function.comp, id]
  rw [show (UInt8.ofNat x.toNat).toNat = x.toNat % 256 from rfl]
  omega
theorem splitV_cap (sep : List UInt8) (hsep : sep ≠ []) : ∀ (k : Nat) (a : Addr) (cap : Nat) (l : List UInt8), l.length ≤ cap → ∀ v ∈ Lib.splitV sep 0 k a cap l, ∃ a' len cp, v = .slice a' len cp ∧ cp ≤ cap
  | 0, a, cap, l, hl, v, hv => ⟨_, _, _, List.mem_singleton.1 hv, Nat.le_refl _⟩
  | k + 1, a, cap, l, hl, v, hv => by
    unfold Lib.splitV at hv
    split at hv
    · exact ⟨_, _, _, List.mem_singleton.1 hv, Nat.le_refl _⟩
    · rename_i hi
      have h0 : 0 ≤ Lib.index l sep := by
        rcases Lib.index_spec l sep with ⟨h1, _⟩ | ⟨i, h1, _⟩
        · rw [h1] at hi; exact absurd rfl hi
        · rw [h1]; omega
      have := Lib.index_room l sep h0
      rcases List.mem_cons.1 hv with rfl | hv
      · exact ⟨_, _, _, rfl, by omega⟩
      · obtain ⟨a', len, cp, h1, h2⟩ := splitV_cap sep hsep k _ _ _ (by rw [List.length_drop]; omega) v hv
        exact ⟨a', len, cp, h1, by omega⟩
theorem splitK_len (sep : List UInt8) : ∀ (f : Nat) (s : List UInt8), (Lib.splitK sep 0 (Lib.countFrom sep f s) s).length = Lib.countFrom sep f s + 1
  | 0, s => rfl
  | f + 1, s => by
    unfold Lib.countFrom
    by_cases h : (Lib.index s sep == -1) = true
    · rw [if_pos h]; rfl
    · rw [if_neg h, Nat.add_comm 1, Lib.splitK, if_neg h, List.length_cons]
      exact congrArg (· + 1) (splitK_len sep f _)
theorem rzl_of {α : Type} {R : List Nat → α → List Value → Prop} : ∀ {xs : List α} {vs : List Value}, xs.length = vs.length → (∀ (j : Nat) x v, xs[j]? = some x → vs[j]? = some v → R [] x [v]) → RzL R [] xs vs
  | [], [], _, _ => .nil
  | [], _ :: _, h, _ => by simp at h
  | _ :: _, [], h, _ => by simp at h
  | x :: xs, v :: vs, h, hj => RzL.cons (F := []) (Fs := []) (c := [v]) (hj 0 x v rfl rfl) (rzl_of (by simpa using h) fun j x' v' h1 h2 => hj (j + 1) x' v' (by simpa using h1) (by simpa using h2))
theorem ok37 : FnOk Tryz.prog GW 37 ⟨s37, d37⟩ := by
  refine fnOk_of rfl fun k (x : List Int × List Int × Unit) r hr w S vs hG ⟨v0, vs0, e0, h0, v1, vs1, e1, h1, hv⟩ => ?_
  obtain ⟨rfl, _⟩ := hv
  subst e1 e0
  obtain ⟨A, c1, rfl, hc, hx⟩ := val_sl (k := .int .u8) rfl h0
  obtain ⟨A2, c2, rfl, hc2, hx2⟩ := val_sl (k := .int .u8) rfl h1
  have hr : d37 k x = some r := hr
  unfold d37 at hr
  split at hr <;> try (cases hr; done)
  rename_i hb
  obtain rfl := Option.some.inj hr
  obtain ⟨xs, ys, u⟩ := x
  obtain ⟨b1, b2, b3, b4⟩ := hb
  have b3 : xs.length < 4294967281 := b3
  have b4 : ys.length = 1 := b4
  have b1 : byteL xs = true := b1
  obtain ⟨m, hm⟩ := hG.m
  rcases hx2 with ⟨hx2, _⟩ | ⟨q, p, rfl, _, hlt2, hcell2⟩
  · have hx2 : ys = [] := hx2
    rw [hx2] at b4; simp at b4
  have cellOf : ∀ (l : List Int) (b o : Nat), CellsAt w b o (l.map (enc1 (.int .u8))) → ∀ i, i < l.length → w.cell? ((⟨b, o, none⟩ : Addr).add i) = some (.int .u8 (l.getD i 0)) := by
    intro l b o hc i hi
    rw [Addr.add_lit]
    refine hc i _ ?_
    erw [List.getElem?_map, List.getElem?_eq_getElem hi]
    simp [enc1, List.getD, List.getElem?_eq_getElem hi]
  have hsep : u8s ys ≠ [] := by
    intro h
    have := congrArg List.length h
    simp [u8s, b4] at this
  have hc : CapOk xs.length c1 := hc
  -- what the pieces are, wherever the text lies
  have pieces : ∀ (a : Addr) (n : Nat), (∀ i, i < xs.length → ∃ b o, a.add i = ⟨b, o + i, none⟩ ∧ a = ⟨b, o, none⟩ ∧ S b ∧ b < w.heap.size ∧ CellsAt w b o (xs.map (enc1 (.int .u8)))) → ∀ w', w' = (w.alloc (.cells (Lib.splitV (u8s ys) 0 (Lib.count (u8s xs) (u8s ys)) a c1 (u8s xs)).toArray 26)).drewN n →
      ∃ us F', Ending.returned (.slice (some ⟨w.heap.size, 0, none⟩) (Lib.count (u8s xs) (u8s ys) + 1) (Lib.count (u8s xs) (u8s ys) + 1)) = .returned (tup us) ∧ Below w.heap.size w w' ∧ F'.Nodup ∧ (∀ b ∈ F', w.heap.size ≤ b) ∧
        ResR w' (After S [] w.heap.size F') s37.rs ((Lib.splitK (u8s ys) 0 (Lib.count (u8s xs) (u8s ys)) (u8s xs)).map u8i, ()) us F' := by
    intro a n ha w' hw'
    have hbel : Below w.heap.size w w' := by
      rw [hw']
      exact ⟨rfl, rfl, rfl, by show w.heap.size ≤ (w.heap.push _).size; simp, fun k hk => Below.heap_alloc _ _ _ hk⟩
    have hlen : (Lib.splitK (u8s ys) 0 (Lib.count (u8s xs) (u8s ys)) (u8s xs)).length = Lib.count (u8s xs) (u8s ys) + 1 := splitK_len _ _ _
    have hcl := Lib.count_le (u8s xs) (u8s ys)
    have hvl := Lib.splitV_length (u8s ys) 0 (Lib.count (u8s xs) (u8s ys)) a c1 (u8s xs)
    have hul : (u8s xs).length = xs.length := by simp [u8s]
    have hnew : w'.heap[w.heap.size]? = some (.cells (Lib.splitV (u8s ys) 0 (Lib.count (u8s xs) (u8s ys)) a c1 (u8s xs)).toArray 26 (0, 0)) := by
      rw [hw']; exact heap_alloc_new' w _
    have hspec := Lib.splitV_spec (u8s ys) 0 hsep (Nat.zero_le _) (Lib.count (u8s xs) (u8s ys)) a c1 (u8s xs) (by rw [hul]; exact hc.1)
    have hcap := splitV_cap (u8s ys) hsep (Lib.count (u8s xs) (u8s ys)) a c1 (u8s xs) (by rw [hul]; exact hc.1)
    generalize hV : Lib.splitV (u8s ys) 0 (Lib.count (u8s xs) (u8s ys)) a c1 (u8s xs) = V at *
    generalize hK : Lib.splitK (u8s ys) 0 (Lib.count (u8s xs) (u8s ys)) (u8s xs) = K at *
    generalize hC : Lib.count (u8s xs) (u8s ys) = C at *
    refine ⟨[_], [w.heap.size], rfl, hbel, by simp, by simp, ⟨_, [], [w.heap.size], [], rfl, by simp, ⟨_, rfl, .inr ⟨w.heap.size, C + 1, _, [], ?_, rfl, hnew, ?_, ⟨?_, ?_⟩, ?_⟩⟩, rfl, rfl⟩⟩
    · show [Value.slice _ (C + 1) _] = [Value.slice _ (List.length (List.map u8i K)) _]
      rw [List.length_map, hlen]
    · simp [Kt.size, hvl, hlen]
    · show List.length (List.map u8i K) ≤ C + 1
      rw [List.length_map, hlen]; exact Nat.le_refl _
    · omega
    · show RzL _ [] (List.map u8i K) (List.take (List.length (List.map u8i K) * 1) V)
      rw [List.take_of_length_le (by rw [List.length_map, hvl]; omega)]
      refine rzl_of (by rw [List.length_map, hvl]) fun j x v hx hv => ?_
      obtain ⟨a', off, len, cp, rfl, h1, h2, h939, h949⟩ := hspec j v hv
      rw [List.getElem?_map, h939] at hx
      obtain rfl := Option.some.inj hx
      obtain ⟨a1, l1, cp1, e1, e2⟩ := hcap _ (List.mem_of_getElem? hv)
      injection e1 with e3 e4 e5
      subst e5
      rw [hul] at h2
      have hxl : (u8i (((u8s xs).drop off).take len)).length = len := by simp [u8i, u8s]; omega
      refine ⟨rfl, .inr ⟨by simp, some a', cp, by rw [hxl], ⟨by rw [hxl]; exact h1, Nat.le_trans e2 hc.2⟩, ?_⟩⟩
      by_cases hz : len = 0
      · left
        exact ⟨List.eq_nil_of_length_eq_zero (by rw [hxl]; exact hz), fun h => by cases h⟩
      · right
        obtain ⟨b, o, q1, q2, q3, q4, q5⟩ := ha off (by omega)
        have h17 := h949 0 (by omega)
        have ea' : a' = ⟨b, o + off, none⟩ := by
          have : a'.add 0 = a' := by unfold Addr.add; simp
          rw [this, Nat.add_zero, q1] at h17
          exact h17
        refine ⟨b, o + off, ((xs.drop off).take len).map (enc1 (.int .u8)), by rw [ea'], ⟨.inl q3, by simp; omega⟩, Nat.lt_of_lt_of_le q4 hbel.size, ?_, ?_⟩
        · rw [u8i_part xs b1]
          exact rzl_atom_mk (k := .int .u8) rfl _
        · refine CellsAt.keep (w := w) ?_ (hbel.block b q4)
          intro i u hu
          have hil : i < len := by
            have := (List.getElem?_eq_some_iff.1 hu).1
            simp at this; omega
          have := q5 (off + i) u (by
            rw [List.getElem?_map] at hu ⊢
            rw [List.getElem?_take, if_pos hil, List.getElem?_drop] at hu
            exact hu)
          rw [Nat.add_assoc]; exact this
  rcases hx with ⟨hx, hx'⟩ | ⟨b, o, rfl, hSb, hlt, hcell⟩
  · have hx : xs = [] := hx
    cases A with
    | none =>
      have hx' := hx' rfl
      subst hx hx'
      refine (Tryz.bytes_Split_nil (some ⟨q, p, none⟩) ys.length c2 w (by omega) (by omega) (fun _ => ⟨q, p, _, rfl, by have := cellOf ys q p hcell2 0 (by omega); simpa [Addr.add_lit] using this⟩)).mono fun e w' h2 => ?_
      obtain ⟨rfl, rfl⟩ := h2
      have hk : Lib.splitK (u8s ys) 0 (Lib.count (u8s []) (u8s ys)) (u8s []) = [[]] := by
        have h1 : Lib.index ([] : List UInt8) (u8s ys) = -1 := by
          rcases Lib.index_spec [] (u8s ys) with ⟨h, _⟩ | ⟨i, h1, h2, h939, _⟩
          · exact h
          · rcases Lib.occAt_room h939 with h' | h'
            · have : (u8s ys).length ≠ 0 := fun e => hsep (List.length_eq_zero_iff.1 e)
              rw [List.length_nil] at h'; omega
            · exact absurd h' hsep
        have h2 : Lib.count ([] : List UInt8) (u8s ys) = 0 := by
          unfold Lib.count Lib.countFrom
          rw [h1]; rfl
        show Lib.splitK (u8s ys) 0 (Lib.count ([] : List UInt8) (u8s ys)) [] = _
        rw [h2]; rfl
      show ∃ us F', _ ∧ _ ∧ _ ∧ _ ∧ ResR _ _ s37.rs ((Lib.splitK (u8s ys) 0 (Lib.count (u8s []) (u8s ys)) (u8s [])).map u8i, ()) us F'
      rw [hk]
      refine ⟨[_], [w.heap.size], rfl, Below.alloc (Below.refl _ _) (Nat.le_refl _) _, by simp, by simp, ⟨_, [], [w.heap.size], [], rfl, by simp, ⟨_, rfl, .inr ⟨w.heap.size, 1, _, [], rfl, rfl, heap_alloc_new' w _, rfl, ⟨Nat.le_refl _, by omega⟩, ?_⟩⟩, rfl, rfl⟩⟩
      exact RzL.cons (F := []) (Fs := []) (c := [.slice none 0 0]) ⟨rfl, .inr ⟨by simp, none, 0, rfl, capOk0, .inl ⟨rfl, fun _ => rfl⟩⟩⟩ .nil
    | some a =>
      refine (Tryz.bytes_Split a ⟨q, p, none⟩ xs.length c1 ys.length c2 xs ys m w rfl rfl (byteL_spec b1) (byteL_spec b2) (fun i hi => by rw [hx] at hi; simp at hi) (cellOf ys q p hcell2) hc.1 b3 (by omega) hc.2 (by omega) hm).mono fun e w' h2 => ?_
      obtain ⟨rfl, n, hw'⟩ := h2
      exact pieces a n (fun i hi => by rw [hx] at hi; simp at hi) w' hw'
  · refine (Tryz.bytes_Split ⟨b, o, none⟩ ⟨q, p, none⟩ xs.length c1 ys.length c2 xs ys m w rfl rfl (byteL_spec b1) (byteL_spec b2) (cellOf xs b o hcell) (cellOf ys q p hcell2) hc.1 b3 (by omega) hc.2 (by omega) hm).mono fun e w' h2 => ?_
    obtain ⟨rfl, n, hw'⟩ := h2
    exact pieces _ n (fun i hi => ⟨b, o, Addr.add_lit .., rfl, hSb, hlt, hcell⟩) w' hw'
end Go.Proofs.YticemfakkgebhaaGreatDoor.L
