/- Rows of bytes that '[]byte(s)' made: their frozen stretch lies behind the row's end. Appends to them, as to any row that the call owns. -/
import Derived.Test.YtabfmhlhdebcpaaGreatDoorByte1
import Derived.Lib.FrozenHead
import Derived.Laws.IdiomStrings
namespace Go.Proofs.YtabfmhlhdebcpaaGreatDoor
open Go.RowKit
set_option linter.unusedVariables false
set_option linter.unusedSimpArgs false
/-- Stores into a row whose frozen stretch lies behind its end. -/
theorem run_storeCells_atT (P : Program) (g o : Nat) (t : TypeId) (fz : Nat × Nat) : ∀ (vs : List Value) (i : Nat) (cur : Array Value) (w : World), w.heap[g]? = some (.cells cur t fz) → (fz = (0, 0) ∨ cur.size ≤ fz.1) → o + i + vs.length ≤ cur.size → (∀ v ∈ vs, v.oneCell' = true) →
    (storeCells ⟨g, o, none⟩ vs i).run P w = .ok () (w.setRow g (cur.toList.take (o + i) ++ vs ++ cur.toList.drop (o + i + vs.length)).toArray)
  | [], i, cur, w, hg, _, _, _ => by
    simp only [storeCells, List.append_nil, List.length_nil, Nat.add_zero, List.take_append_drop, Array.toArray_toList]
    rw [Go.setRow_self w g cur t fz hg]
    rfl
  | v :: rest, i, cur, w, hg, hfz, hl, h1 => by
    have hi : o + i < cur.size := by simp at hl; omega
    have hadd : (⟨g, o, none⟩ : Addr).add i = ⟨g, o + i, none⟩ := by unfold Addr.add; split <;> simp_all
    have hcell : w.cell? ⟨g, o + i, none⟩ = some cur[o + i] := by simp [World.cell?, hg, hi]
    have hfro : w.frozen? ⟨g, o + i, none⟩ = false := by
      obtain ⟨lo, hi'⟩ := fz
      simp only [World.frozen?, hg, Bool.and_eq_false_iff, decide_eq_false_iff_not]
      rcases hfz with hfz | hfz
      · right; cases hfz; omega
      · left; simp only at hfz; omega
    have hst : (store ((⟨g, o, none⟩ : Addr).add i) v).run P w = .ok () (w.setRow g (cur.setIfInBounds (o + i) v)) := by
      rw [hadd, run_store P w _ v _ (h1 v (by simp)), hcell]
      simp [hfro, setCell_eq_setRow w g (o + i) cur t fz v hg]
    have ih := run_storeCells_atT P g o t fz rest (i + 1) (cur.setIfInBounds (o + i) v) (w.setRow g (cur.setIfInBounds (o + i) v)) (setRow_heap w g cur _ t _ hg) (by simpa using hfz) (by simp at hl ⊢; omega) (fun x hx => h1 x (by simp [hx]))
    simp only [storeCells, Sem.run_bind, hst, Result.andThen_ok, ih, setRow_setRow]
    congr 3
    have e := list_seg_step cur.toList (o + i) v rest (by simp at hl ⊢; omega)
    simpa [Array.toList_setIfInBounds, Nat.add_assoc] using e
/-- A slice of bytes that the call made, of which a stretch behind the row's end may be frozen. -/
def OwnT (w : World) (base : Nat) (v : Value) (l : List (BitVec 8)) : Prop :=
  (v = .slice none 0 0 ∧ l = []) ∨
   ∃ g cap cur fz, v = .slice (some ⟨g, 0, none⟩) l.length cap ∧ base ≤ g ∧ w.heap[g]? = some (.cells cur 5 fz) ∧ (fz = (0, 0) ∨ cur.size ≤ fz.1) ∧ l.length ≤ cap ∧ cap ≤ 9223372036854775807 ∧ cur.size = cap ∧ cur.toList.take l.length = by8 l
theorem OwnT.bytes {w : World} {base : Nat} {v : Value} {l : List (BitVec 8)} (h : OwnT w base v l) : BytesV w v l := by
  rcases h with ⟨rfl, rfl⟩ | ⟨g, cap, cur, fz, rfl, hb, hg, hf, hn, hc, hs, ht⟩
  · exact BytesV.nil w
  · refine ⟨_, _, rfl, (fun h => by cases h), hn, hc, .inr ⟨g, 0, rfl, fun i hi => ?_⟩⟩
    rw [by8_length] at hi
    rw [Nat.zero_add, cell_of_row w g i cur _ _ hg, ← ht, List.getElem?_take_of_lt hi]
    simp
theorem OwnT.lt {w : World} {base : Nat} {v : Value} {l : List (BitVec 8)} (h : OwnT w base v l) : ∀ k, v.ownBlock = some k → base ≤ k ∧ k < w.heap.size := by
  intro k hk
  rcases h with ⟨rfl, rfl⟩ | ⟨g, cap, cur, fz, rfl, hb, hg, rest⟩
  · cases hk
  · simp [Value.ownBlock] at hk
    subst hk
    exact ⟨hb, (Array.getElem?_eq_some_iff.1 hg).1⟩
theorem OwnT.below {w w' : World} {base : Nat} {v : Value} {l : List (BitVec 8)} (h : OwnT w base v l) (hb : Below w.heap.size w w') : OwnT w' base v l := by
  rcases h with h | ⟨g, cap, cur, fz, hv, hb', hg, rest⟩
  · exact .inl h
  · exact .inr ⟨g, cap, cur, fz, hv, hb', blk_below hg hb, rest⟩
/-- '[]byte(s)'. -/
theorem conv_bytes (w : World) (l : List (BitVec 8)) (hl : l.length ≤ 9223372036854775807) : ∃ v w', (convert 9 42 (.string (strOf l))).run Tryz.prog w = .ok v w' ∧ OwnT w' w.heap.size v l ∧ Below w.heap.size w w' := by
  have hsz : (strOf l).size = l.length := by simp [strOf, ByteArray.size]
  have hr := run_bytes_of_string (P := Tryz.prog) w 9 42 5 (strOf l) Tryz.underlying9 Tryz.underlying42 Tryz.underlying5
  rw [hsz] at hr
  refine ⟨_, _, hr, .inr ⟨w.heap.size, _, _, _, rfl, Nat.le_refl _, heap_alloc_new w.drew _, ?_⟩, (Below.refl _ _).drew.alloc (Nat.le_refl _) _⟩
  have hge := grownCap_ge w l.length 0 5
  have hle := grownCap_le_maxLen w l.length 0 5 (by simpa [maxLen] using hl)
  refine ⟨.inr (Nat.le_refl _), hge, by simpa [maxLen] using hle, ?_, ?_⟩
  · simp [bytesRow, strOf, hsz]
    unfold ByteArray.size; simp
    omega
  · simp [bytesRow, strOf, by8]
    intro a _
    simp [uv]
section
variable {ops : Array Oper} {rest : List Oper} {o : Oper} {a : Act} {Q : Exit → Act → World → Prop} {W : World}
theorem str_cells (m : List (BitVec 8)) : Lib.strCells (strOf m) = by8 m := by
  simp [Lib.strCells, strOf, by8, uv]
theorem str_size (m : List (BitVec 8)) : (strOf m).size = m.length := by simp [strOf, ByteArray.size]
theorem run_tail_str (w : World) (ty : TypeId) (base : Nat) (v : Value) (l m : List (BitVec 8)) (h : OwnT w base v l) (hb : base ≤ w.heap.size) (hs : l.length + m.length ≤ 140737488355328) :
    ∃ v' w', (Builtin.append_ #[42, 9] ty #[v, .string (strOf m)]).run Tryz.prog w = .ok v' w' ∧ OwnT w' base v' (l ++ m) ∧ Below base w w' := by
  obtain ⟨i, hi, hz0, hz1, hz2⟩ := bytesOk.info
  rcases h with ⟨rfl, rfl⟩ | ⟨g, cap, cur, fz, rfl, hbg, hg, hf, hn, hc, hcs, ht⟩
  · obtain ⟨v', w', h1, h2, h3, h4⟩ := Lib.run_append_own_string (P := Tryz.prog) w base 42 9 ty 5 i Tryz.underlying42 Tryz.underlying9 hi hz0 hz1 hz2 (.slice none 0 0) 0 [] (World.ownsRow_nil _ _ _ _) (strOf m) (by rw [str_size]; simp [maxLen] ; omega) (by rw [str_size]; simpa using hs) hb
    refine ⟨v', w', h1, ?_, (Below.refl base w).grown h3 hb (fun k hk => by cases hk)⟩
    rw [str_size, str_cells, Nat.zero_add, List.nil_append] at h2
    rcases h2.2 with ⟨rfl, e⟩ | ⟨g, cap, cur, rfl, hbg, hg, hnc, hcm, hcs, htk⟩
    · exact .inl ⟨rfl, List.length_eq_zero_iff.1 (by simpa using e)⟩
    · exact .inr ⟨g, cap, cur, (0, 0), by simp, hbg, hg, .inl rfl, by simpa using hnc, by simpa [maxLen] using hcm, by simpa using hcs, by simpa using htk⟩
  · by_cases hroom : l.length + m.length ≤ cap
    · have hff := Lib.run_firstCells_string (P := Tryz.prog) w 1 (strOf m)
      have hst := run_storeCells_atT Tryz.prog g l.length 5 fz (by8 m) 0 cur w hg hf (by rw [by8_length]; omega) (by8_one m)
      simp only [Nat.add_zero, by8_length] at hst
      rw [str_cells] at hff
      refine ⟨.slice (some ⟨g, 0, none⟩) (l ++ m).length cap, w.setRow g (cur.toList.take l.length ++ by8 m ++ cur.toList.drop (l.length + m.length)).toArray, ?_, .inr ⟨g, cap, _, fz, rfl, hbg, setRow_heap w g cur _ _ _ hg, ?_, by simp; omega, hc, ?_, ?_⟩, below_setRow (Below.refl _ _) hbg _⟩
      · have hs1 : i.size = 1 := hz1
        rw [str_size] at hff
        simp [Builtin.append_, run_underlying Tryz.underlying42, run_underlying Tryz.underlying9, sizeOf, typeInfo, hi, hs1, Builtin.lenOf, str_size, hroom, hff, Addr.add_lit, hst]
      · rcases hf with hf | hf
        · exact .inl hf
        · refine .inr ?_
          simp [by8_length]
          omega
      · simp [by8_length]; omega
      · rw [ht, List.length_append, by8_append]
        show List.take _ ((by8 l ++ by8 m) ++ _) = _
        exact List.take_left' (by simp [by8_length])
    · have holds : ∀ j u, (by8 l)[j]? = some u → w.cell? ((⟨g, 0, none⟩ : Addr).add j) = some u := by
        intro j u hj
        have hadd : (⟨g, 0, none⟩ : Addr).add j = ⟨g, j, none⟩ := by unfold Addr.add; split <;> simp_all
        have hlt := (List.getElem?_eq_some_iff.1 hj).1
        rw [by8_length] at hlt
        rw [hadd, cell_of_row w g j cur _ _ hg]
        rw [← ht, List.getElem?_take_of_lt hlt] at hj
        simpa using hj
      have hr := Lib.run_append_grow_string (P := Tryz.prog) w 42 9 ty 5 i (.int .u8 0) Tryz.underlying42 Tryz.underlying9 hi hz0 ⟨g, 0, none⟩ l.length cap (by8 l) (by rw [hz1, by8_length, Nat.mul_one]) holds (strOf m) (by rw [str_size]; omega) (by rw [str_size]; omega) (by rw [hz2]; exact growslice_fits (by rw [str_size]; omega) (by rw [str_size]; omega))
      rw [str_size, str_cells] at hr
      have hge := grownCap_ge w (l.length + m.length) cap 5
      have hle := grownCap_le_maxLen w (l.length + m.length) cap 5 (by simp [maxLen]; omega)
      refine ⟨_, _, hr, .inr ⟨w.heap.size, _, _, (0, 0), by rw [List.length_append], hb, heap_alloc_new w.drew _, .inl rfl, by rw [List.length_append]; exact hge, by simpa [maxLen] using hle, ?_, ?_⟩, (Below.refl _ _).drew.alloc hb _⟩
      · have hz : (Value.int IntKind.u8 0).cells.size = 1 := rfl
        simp [size_zeroCells, hz, by8_length]
        omega
      · rw [by8_append, List.length_append]
        simp only [Array.toList_append]
        exact List.take_left' (by simp [by8_length])
theorem run_tail_one (w : World) (ty : TypeId) (base : Nat) (v : Value) (l : List (BitVec 8)) (y : BitVec 8) (ad : Addr) (hy : w.cell? ad = some (.int .u8 (uv y))) (h : OwnT w base v l) (hb : base ≤ w.heap.size) (hs : l.length + 1 ≤ 140737488355328) :
    ∃ v' w', (Builtin.append_ #[42, 42] ty #[v, .slice (some ad) 1 1]).run Tryz.prog w = .ok v' w' ∧ OwnT w' base v' (l ++ [y]) ∧ Below base w w' := by
  obtain ⟨i, hi, hz0, hz1, hz2⟩ := bytesOk.info
  have hnews : ∀ j u, (by8 [y])[j]? = some u → w.cell? (ad.add j) = some u := by
    intro j u hj
    obtain rfl : j = 0 := by
      have := (List.getElem?_eq_some_iff.1 hj).1
      simp [by8] at this; exact this
    have hadd : ad.add 0 = ad := by unfold Addr.add; split <;> simp_all
    rw [hadd, hy]; simpa [by8] using hj
  rcases h with ⟨rfl, rfl⟩ | ⟨g, cap, cur, fz, rfl, hbg, hg, hf, hn, hc, hcs, ht⟩
  · obtain ⟨v', w', h1, h2, h3, h4⟩ := run_append_own (P := Tryz.prog) w base 42 ty 5 i (.int .u8 0) 1 1 Tryz.underlying42 hi hz0 hz1 hz2 rfl (by omega) (.slice none 0 0) 0 [] (World.ownsRow_nil _ _ _ _) ad 1 1 (by8 [y]) rfl hnews (by8_one _) (by simp [maxLen]) (by omega) hb
    refine ⟨v', w', h1, ?_, (Below.refl base w).grown h3 hb (fun k hk => by cases hk)⟩
    rw [List.nil_append] at h2
    rcases h2.2 with ⟨rfl, e⟩ | ⟨g, cap, cur, rfl, hbg, hg, hnc, hcm, hcs, htk⟩
    · omega
    · exact .inr ⟨g, cap, cur, (0, 0), rfl, hbg, hg, .inl rfl, by simpa using hnc, by simpa [maxLen] using hcm, by simpa using hcs, by simpa using htk⟩
  · by_cases hroom : l.length + 1 ≤ cap
    · have hff := run_firstCells_some (P := Tryz.prog) w 1 1 ad 1 1 (by8 [y]) rfl hnews
      have hst := run_storeCells_atT Tryz.prog g l.length 5 fz (by8 [y]) 0 cur w hg hf (by rw [by8_length]; simp; omega) (by8_one [y])
      simp only [Nat.add_zero, by8_length, List.length_singleton] at hst
      refine ⟨.slice (some ⟨g, 0, none⟩) (l ++ [y]).length cap, w.setRow g (cur.toList.take l.length ++ by8 [y] ++ cur.toList.drop (l.length + 1)).toArray, ?_, .inr ⟨g, cap, _, fz, rfl, hbg, setRow_heap w g cur _ _ _ hg, ?_, by simp; omega, hc, ?_, ?_⟩, below_setRow (Below.refl _ _) hbg _⟩
      · have hs1 : i.size = 1 := hz1
        simp [Builtin.append_, run_underlying Tryz.underlying42, sizeOf, typeInfo, hi, hs1, Builtin.lenOf, hroom, hff, Addr.add_lit, hst]
      · rcases hf with hf | hf
        · exact .inl hf
        · refine .inr ?_
          simp [by8_length]
          omega
      · simp [by8_length]; omega
      · rw [ht, List.length_append, by8_append]
        show List.take _ ((by8 l ++ by8 [y]) ++ _) = _
        exact List.take_left' (by simp [by8_length])
    · have holds : ∀ j u, (by8 l)[j]? = some u → w.cell? ((⟨g, 0, none⟩ : Addr).add j) = some u := by
        intro j u hj
        have hadd : (⟨g, 0, none⟩ : Addr).add j = ⟨g, j, none⟩ := by unfold Addr.add; split <;> simp_all
        have hlt := (List.getElem?_eq_some_iff.1 hj).1
        rw [by8_length] at hlt
        rw [hadd, cell_of_row w g j cur _ _ hg]
        rw [← ht, List.getElem?_take_of_lt hlt] at hj
        simpa using hj
      have hr := run_append_grow (P := Tryz.prog) w 42 ty 5 i (.int .u8 0) Tryz.underlying42 hi hz0 ⟨g, 0, none⟩ l.length cap (by8 l) (by rw [hz1, by8_length, Nat.mul_one]) holds ad 1 1 (by8 [y]) (by rw [hz1]; rfl) hnews (by omega) (by omega) (by rw [hz2]; exact growslice_fits (by omega) (by omega))
      have hge := grownCap_ge w (l.length + 1) cap 5
      have hle := grownCap_le_maxLen w (l.length + 1) cap 5 (by simp [maxLen]; omega)
      refine ⟨_, _, hr, .inr ⟨w.heap.size, _, _, (0, 0), by rw [List.length_append]; rfl, hb, heap_alloc_new w.drew _, .inl rfl, by rw [List.length_append]; exact hge, by simpa [maxLen] using hle, ?_, ?_⟩, (Below.refl _ _).drew.alloc hb _⟩
      · have hz : (Value.int IntKind.u8 0).cells.size = 1 := rfl
        simp [size_zeroCells, hz, by8_length]
        omega
      · rw [by8_append, List.length_append]
        simp only [Array.toList_append]
        exact List.take_left' (by simp [by8_length])
/-- 'append(own, x)' for one byte, behind the array of the one element. -/
theorem app_tail_one (hgd : o.guard = none) (s x : Operand) (ho : o.op = .call { callee := .builtin .append, args := #[s, x], argTypes := #[42, 42] })
    (u : Value) (base : Nat) (l : List (BitVec 8)) (hs : a.eval s = u) (hown : OwnT W base u l) (hbase : base ≤ W.heap.size) (y : BitVec 8) (hx : a.eval x = .slice (some ⟨W.heap.size, 0, none⟩) 1 1) (hl : l.length + 1 ≤ 140737488355328)
    (h : ∀ v' w', OwnT w' base v' (l ++ [y]) → Below base W w' → wpList Tryz.prog ops Q rest (a.put o.dst v') w') : wpList Tryz.prog ops Q (o :: rest) a (W.alloc (.cells #[.int .u8 (uv y)] 5)) := by
  refine wpList_plain hgd fun K hK => ?_
  have hb : Below base W (W.alloc (.cells #[.int .u8 (uv y)] 5)) := (Below.refl base W).alloc hbase _
  obtain ⟨v', w', hr, h2, h3⟩ := run_tail_one (W.alloc (.cells #[.int .u8 (uv y)] 5)) o.type base u l y ⟨W.heap.size, 0, none⟩ (by simp [go_sem]) (hown.below (gr_alloc _ _)) (Nat.le_trans hbase hb.size) hl
  unfold Oper.wp execOp
  simp only [ho, resolve, invoke, builtin, Sem.run_bind, Sem.run_pure, Result.andThen_ok, List.map_toArray, List.map_cons, List.map_nil, hs, hx, hr]
  exact hK _ _ (h v' w' h2 (hb.trans h3))
theorem app_tail_str (hgd : o.guard = none) (s x : Operand) (ho : o.op = .call { callee := .builtin .append, args := #[s, x], argTypes := #[42, 9] })
    (u : Value) (base : Nat) (l m : List (BitVec 8)) (hs : a.eval s = u) (hown : OwnT W base u l) (hbase : base ≤ W.heap.size) (hx : a.eval x = .string (strOf m)) (hl : l.length + m.length ≤ 140737488355328)
    (h : ∀ v' w', OwnT w' base v' (l ++ m) → Below base W w' → wpList Tryz.prog ops Q rest (a.put o.dst v') w') : wpList Tryz.prog ops Q (o :: rest) a W := by
  refine wpList_plain hgd fun K hK => ?_
  obtain ⟨v', w', hr, h2, h3⟩ := run_tail_str W o.type base u l m hown hbase hl
  unfold Oper.wp execOp
  simp only [ho, resolve, invoke, builtin, Sem.run_bind, Sem.run_pure, Result.andThen_ok, List.map_toArray, List.map_cons, List.map_nil, hs, hx, hr]
  exact hK _ _ (h v' w' h2 h3)
end
end Go.Proofs.YtabfmhlhdebcpaaGreatDoor
