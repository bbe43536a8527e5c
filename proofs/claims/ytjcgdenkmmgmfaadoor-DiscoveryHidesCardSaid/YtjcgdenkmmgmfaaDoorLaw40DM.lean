/- Merged: DscDel, DscRem, DscS2, Few40, Law40D. -/
import Derived.Test.YtjcgdenkmmgmfaaDoorRows2
import Derived.Test.YtjcgdenkmmgmfaaDoorChg
import Derived.Deep.RegionLaw
import Derived.Lib.SliceRun
import Derived.Deep.DeepCutAuto
import Derived.Test.YtjcgdenkmmgmfaaDoorDscO
import Derived.Test.YtjcgdenkmmgmfaaDoorDscM
import Derived.Test.YtjcgdenkmmgmfaaDoorDscG
import Derived.Test.YtjcgdenkmmgmfaaDoorLaw40A
namespace Go.Proofs.YtjcgdenkmmgmfaaDoor
open Go.RowKit
set_option linter.unusedVariables false
set_option linter.unusedSimpArgs false
attribute [local go_sem] Oper.semAt_some
namespace Dsc
/-- Values stored one behind the other. -/
def putA : Array Value → Nat → List Value → Array Value
  | c, _, [] => c
  | c, o, v :: r => putA (c.setIfInBounds o v) (o + 1) r
theorem putA_size : ∀ (vs : List Value) (c : Array Value) (o : Nat), (putA c o vs).size = c.size
  | [], _, _ => rfl
  | v :: r, c, o => by unfold putA; rw [putA_size r]; simp
theorem putA_get : ∀ (vs : List Value) (c : Array Value) (o j : Nat), o + vs.length ≤ c.size → (putA c o vs)[j]? = if o ≤ j ∧ j < o + vs.length then vs[j - o]? else c[j]?
  | [], c, o, j, _ => by unfold putA; rw [if_neg (fun h => by have := h.1; have := h.2; simp at *; omega)]
  | v :: r, c, o, j, h => by
    rw [List.length_cons] at h ⊢
    unfold putA
    rw [putA_get r _ _ _ (by simp; omega)]
    by_cases h1 : o + 1 ≤ j ∧ j < o + 1 + r.length
    · rw [if_pos h1, if_pos (by omega), show j - o = (j - (o + 1)) + 1 by omega, List.getElem?_cons_succ]
    · rw [if_neg h1]
      by_cases h2 : j = o
      · subst h2
        rw [if_pos (by omega), Array.getElem?_setIfInBounds_self, Nat.sub_self, List.getElem?_cons_zero, if_pos (show j < c.size by omega)]
      · rw [if_neg (by omega), Array.getElem?_setIfInBounds_ne (by omega)]
theorem putA_heap {g : Nat} {t : TypeId} : ∀ (vs : List Value) (o : Nat) (w : World) (c : Array Value), w.heap[g]? = some (.cells c t (0, 0)) → (w.setCells g o vs).heap[g]? = some (.cells (putA c o vs) t (0, 0))
  | [], _, _, _, h => h
  | v :: r, o, w, c, h => putA_heap r (o + 1) _ _ (heap_setCell_same w g o c t v h)
theorem putA_chg {g : Nat} : ∀ (vs : List Value) (o : Nat) (w : World), Chg (fun k => k = g) w (w.setCells g o vs)
  | [], _, w => Chg.refl _ w
  | v :: r, o, w => (Chg.setCell (B := fun k => k = g) (p := ⟨g, o, none⟩) w rfl v).trans (putA_chg r (o + 1) _)
end Dsc
open Dsc
/-- 'clear(s)', s a slice of one element that is an aggregate. -/
theorem run_clear_agg {P : Program} (w : World) (t e ty : TypeId) (z : Value) (ht : P.underlying t = some (.slice e)) (hv : ∀ w, (zeroValue e).run P w = .ok z w) (h1 : ∀ v ∈ z.cells.toList, v.oneCell' = true) (b o c : Nat)
    (hc : ∀ j, j < z.cells.size → (w.cell? ⟨b, o + j, none⟩).isSome = true) (hf : ∀ j, j < z.cells.size → w.frozen? ⟨b, o + j, none⟩ = false) :
    (Builtin.clear_ #[t] ty #[.slice (some ⟨b, o, none⟩) 1 c]).run P w = .ok (.tuple #[]) (w.setCells b o z.cells.toList) := by
  have hzc : (Builtin.zeroCells z.cells 1) = z.cells := by
    unfold Builtin.zeroCells
    apply Array.ext
    · simp
    · intro i h1 h2
      simp at h1
      simp [Nat.mod_eq_of_lt h2, getElem!_pos z.cells i h2]
  have hst := run_storeCells_cells (P := P) b o z.cells.toList 0 w (by simpa using hc) (by simpa using hf) h1
  simp only [Nat.add_zero] at hst
  simp [Builtin.clear_, run_underlying ht, hv, hzc, hst]
set_option maxHeartbeats 6400000 in
set_option maxRecDepth 20000 in
theorem Delete_at (base q n c i : Nat) (xs : List Value) (w : World) (hown : w.ownsRow base 80 11 (.slice (some ⟨q, 0, none⟩) n c) n xs) (hi : i < n) (hn : n ≤ 256) (hone : ∀ v ∈ xs, v.oneCell' = true) :
    Calls Tryd.prog 47 #[.slice (some ⟨q, 0, none⟩) n c, .int .i64 i, .int .i64 ((i : Int) + 1)] w fun e w' => e = .returned (.slice (some ⟨q, 0, none⟩) (n - 1) c) ∧ w'.ownsRow base 80 11 (.slice (some ⟨q, 0, none⟩) (n - 1) c) (n - 1) (xs.take (i * 11) ++ xs.drop ((i + 1) * 11)) ∧ Chg (fun k => k = q) w w' := by
  obtain ⟨hlen, hh⟩ := hown
  rcases hh with ⟨h0, _⟩ | ⟨g, cap, cur, hv, hbase, hheap, hnc, hcm, hcs, htake⟩
  · cases h0
  injection hv with hv1 hv2 hv3
  injection hv1 with hv1
  injection hv1 with hv1 hv4
  subst hv1; subst hv3
  have hmax : c ≤ 9223372036854775807 := hcm
  obtain ⟨i0, hi0, hz0, hz1, hz2⟩ := info_parts (show (Tryd.prog.info? 80).map (fun i => (i.zero, i.size, i.bytes)) = some (some (.agg #[.int .u8 0, .int .u8 0, .bool false, .bool false, .int .u16 0, .int .u16 0, .int .u16 0, .string ⟨#[]⟩, .string ⟨#[]⟩, .string ⟨#[]⟩, .slice none 0 0]), 11, 88) by kernel_rfl)
  obtain ⟨news, hnews⟩ : ∃ news, xs.drop ((i + 1) * 11) = news := ⟨_, rfl⟩
  have hnl : news.length = (n - (i + 1)) * 11 := by rw [← hnews, List.length_drop, hlen]; omega
  have hxs : ∀ j, j < n * 11 → xs[j]? = cur[j]? := fun j hj => by
    rw [← htake, List.getElem?_take_of_lt hj, Array.getElem?_toList]
  have hng : ∀ t, t < news.length → news[t]? = cur[(i + 1) * 11 + t]? := fun t ht => by
    rw [← hnews, List.getElem?_drop, hxs _ (by omega)]
  have hcell : ∀ j, w.cell? ⟨q, j, none⟩ = cur[j]? := fun j => cell_of_row _ _ j _ _ _ hheap
  have hfro : ∀ j, w.frozen? ⟨q, j, none⟩ = false := fun j => frozen_of_row _ _ j _ _ hheap
  obtain ⟨A, hA, hsrc⟩ : ∃ A : Addr, (if c = i + 1 then some (⟨q, 0, none⟩ : Addr) else some ⟨q, (i + 1) * 11, none⟩) = some A ∧ Hid (∀ t u, news[t]? = some u → w.drew.cell? (A.add t) = some u) := by
    by_cases h : c = i + 1
    · refine ⟨⟨q, 0, none⟩, by simp [h], Lib.hid (fun t u hu => ?_)⟩
      have h0 : news.length = 0 := by rw [hnl]; omega
      rw [List.length_eq_zero_iff.1 h0] at hu
      simp at hu
    · refine ⟨⟨q, (i + 1) * 11, none⟩, by simp [h], Lib.hid (fun t u hu => ?_)⟩
      have ht := (List.getElem?_eq_some_iff.1 hu).1
      rw [hng t ht] at hu
      rw [Addr.add_lit]
      exact (hcell ((i + 1) * 11 + t)).trans hu
  have s1 : Hid (news.length = (n - (i + 1)) * 11) := Lib.hid hnl
  have s2 : Hid (∀ u ∈ news, u.oneCell' = true) := Lib.hid (fun u hu => hone u (by rw [← hnews] at hu; exact List.mem_of_mem_drop hu))
  have s3 : Hid (∀ t, t < news.length → (w.drew.cell? ⟨q, 0 + i * 11 + t, none⟩).isSome = true ∧ w.drew.frozen? ⟨q, 0 + i * 11 + t, none⟩ = false) := Lib.hid (fun t ht => by
    refine ⟨?_, hfro _⟩
    show (w.cell? _).isSome = true
    rw [hcell, Array.getElem?_eq_getElem (by rw [hcs]; omega)]; rfl)
  obtain ⟨W1, hW1⟩ : ∃ W1, W1 = w.drew.setCells q (0 + i * 11) news := ⟨_, rfl⟩
  have hrow1 : W1.heap[q]? = some (.cells (putA cur (0 + i * 11) news) 80 (0, 0)) := by rw [hW1]; exact putA_heap news _ _ _ hheap
  have hcg1 : Chg (fun k => k = q) w W1 := by rw [hW1]; exact (Chg.of_below (gr_drew w)).trans (putA_chg news _ _)
  have hsz1 : (putA cur (0 + i * 11) news).size = c * 11 := by rw [putA_size, hcs]
  obtain ⟨cur1, hcur1⟩ : ∃ x, putA cur (0 + i * 11) news = x := ⟨_, rfl⟩
  rw [hcur1] at hrow1 hsz1
  have hzv : ∀ w, (zeroValue 80).run Tryd.prog w = .ok (.agg #[.int .u8 0, .int .u8 0, .bool false, .bool false, .int .u16 0, .int .u16 0, .int .u16 0, .string ⟨#[]⟩, .string ⟨#[]⟩, .string ⟨#[]⟩, .slice none 0 0]) w := fun w => by kernel_rfl
  have hcl : ∀ ty, (Builtin.clear_ #[48] ty #[.slice (some ⟨q, (n - 1) * 11, none⟩) 1 (c - (n - 1))]).run Tryd.prog W1 = .ok (.tuple #[]) (W1.setCells q ((n - 1) * 11) ((#[.int .u8 0, .int .u8 0, .bool false, .bool false, .int .u16 0, .int .u16 0, .int .u16 0, .string ⟨#[]⟩, .string ⟨#[]⟩, .string ⟨#[]⟩, .slice none 0 0] : Array Value).toList)) :=
    fun ty => run_clear_agg W1 _ 80 ty (.agg #[.int .u8 0, .int .u8 0, .bool false, .bool false, .int .u16 0, .int .u16 0, .int .u16 0, .string ⟨#[]⟩, .string ⟨#[]⟩, .string ⟨#[]⟩, .slice none 0 0]) Tryd.underlying48 hzv (by simp [Value.cells, Value.oneCell']) q ((n - 1) * 11) _
      (fun j hj => by
        have hj' : j < 11 := hj
        rw [cell_of_row _ _ _ _ _ _ hrow1, Array.getElem?_eq_getElem (by rw [hsz1]; omega)]; rfl)
      (fun j hj => frozen_of_row _ _ _ _ _ hrow1)
  have hz11 : ((#[.int .u8 0, .int .u8 0, .bool false, .bool false, .int .u16 0, .int .u16 0, .int .u16 0, .string ⟨#[]⟩, .string ⟨#[]⟩, .string ⟨#[]⟩, .slice none 0 0] : Array Value).toList).length = 11 := rfl
  obtain ⟨zl, hzl⟩ : ∃ zl, ((#[.int .u8 0, .int .u8 0, .bool false, .bool false, .int .u16 0, .int .u16 0, .int .u16 0, .string ⟨#[]⟩, .string ⟨#[]⟩, .string ⟨#[]⟩, .slice none 0 0] : Array Value).toList) = zl := ⟨_, rfl⟩
  rw [hzl] at hcl hz11
  clear hzl
  obtain ⟨W2, hW2⟩ : ∃ x, x = W1.setCells q ((n - 1) * 11) zl := ⟨_, rfl⟩
  rw [← hW2] at hcl
  have hcg2 : Chg (fun k => k = q) w W2 := by rw [hW2]; exact hcg1.trans (putA_chg _ _ _)
  have hrow2 : W2.heap[q]? = some (.cells (putA cur1 ((n - 1) * 11) zl) 80 (0, 0)) := by rw [hW2]; exact putA_heap _ _ _ _ hrow1
  have hsz2 : (putA cur1 ((n - 1) * 11) zl).size = c * 11 := by rw [putA_size, hsz1]
  have htk : (putA cur1 ((n - 1) * 11) zl).toList.take ((n - 1) * 11) = xs.take (i * 11) ++ news := by
    apply List.ext_getElem?
    intro j
    by_cases hj : j < (n - 1) * 11
    · rw [List.getElem?_take_of_lt hj, Array.getElem?_toList, putA_get _ _ _ _ (by rw [hsz1]; rw [hz11]; omega), if_neg (by rw [hz11]; omega), ← hcur1, putA_get _ _ _ _ (by rw [hcs, hnl]; omega)]
      by_cases h2 : 0 + i * 11 ≤ j ∧ j < 0 + i * 11 + news.length
      · rw [if_pos h2, List.getElem?_append_right (by rw [List.length_take, hlen]; omega), List.length_take, hlen]
        congr 1; omega
      · rw [if_neg h2, List.getElem?_append_left (by rw [List.length_take, hlen]; omega), List.getElem?_take_of_lt (by omega), hxs j (by omega)]
    · rw [List.getElem?_eq_none (by rw [List.length_take]; omega), List.getElem?_eq_none (by rw [List.length_append, List.length_take, hlen, hnl]; omega)]
  have OWN := Lib.hid (show W2.ownsRow base 80 11 (.slice (some ⟨q, 0, none⟩) (n - 1) c) (n - 1) (xs.take (i * 11) ++ news) from
    ⟨by rw [List.length_append, List.length_take, hlen, hnl]; omega, .inr ⟨q, c, _, rfl, hbase, hrow2, by omega, hcm, hsz2, htk⟩⟩)
  have CG := Lib.hid hcg2
  have HCL := Lib.hid hcl
  have hW : Hid (W1 = w.drew.setCells q (0 + i * 11) news) := Lib.hid hW1
  have hic : i ≤ c := by omega
  have hjc : i + 1 ≤ c := by omega
  obtain ⟨m, hm⟩ : ∃ m, n - 1 = m := ⟨_, rfl⟩
  have HM := Lib.hid (show i + (n - (i + 1)) = m by omega)
  rw [hm] at OWN HCL
  have HZ := Lib.hid hz0; have HI := Lib.hid hi0; have HZ1 := Lib.hid hz1
  have he : Tryd.prog.elem 48 = 80 := by kernel_rfl
  have ht' : Tryd.prog.underlying 48 = some (.slice (Tryd.prog.elem 48)) := by rw [he]; exact Tryd.underlying48
  have hz : ∀ w', (sizeOf (Tryd.prog.elem 48)).run Tryd.prog w' = .ok 11 w' := fun w' => by
    rw [he]
    simp [sizeOf, typeInfo, hi0, hz1]
  obtain ⟨u1, hu1⟩ : ∃ u1, ∀ w', (Instr.slice 48 (.slice (some ⟨q, 0, none⟩) n c) (some (.int .i64 (i : Int))) (some (.int .i64 ((i : Int) + 1))) (some (.int .i64 (n : Int)))).run Tryd.prog w' = .ok u1 w' := by
    refine ⟨.slice (if n = i then some ⟨q, 0, none⟩ else (some (⟨q, 0, none⟩ : Addr)).map (·.add (i * 11))) (i + 1 - i) (n - i), fun w' => ?_⟩
    have h := run_slice_lhm w' 48 (some ⟨q, 0, none⟩) n c ht' .i64 .i64 .i64 (i : Int) ((i : Int) + 1) n (by omega) (by omega) (by omega) (by omega)
    rw [hz] at h
    refine h.trans ?_
    simp [Result.andThen, sliced]
  have r2 : ∀ w', (Instr.slice 48 (.slice (some ⟨q, 0, none⟩) n c) none (some (.int .i64 (i : Int))) none).run Tryd.prog w' = .ok (.slice (some ⟨q, 0, none⟩) i c) w' := fun w' => by
    rw [run_slice_h w' 48 (some ⟨q, 0, none⟩) n c ht' .i64 i (by omega) (by omega), hz]
    simp [Result.andThen, sliced, Addr.add]
  have r3 : ∀ w', (Instr.slice 48 (.slice (some ⟨q, 0, none⟩) n c) (some (.int .i64 ((i : Int) + 1))) none none).run Tryd.prog w' = .ok (.slice (some A) (n - (i + 1)) (c - (i + 1))) w' := fun w' => by
    have h := run_slice_l w' 48 (some ⟨q, 0, none⟩) n c ht' .i64 (i + 1) (by omega) (by omega)
    rw [hz] at h
    refine h.trans ?_
    rw [← hA]
    simp [Result.andThen, sliced, Addr.add]
  have r4 : ∀ w', (Instr.slice 48 (.slice (some ⟨q, 0, none⟩) (n - 1) c) (some (.int .i64 ((n - 1 : Nat) : Int))) (some (.int .i64 (n : Int))) none).run Tryd.prog w' = .ok (.slice (some ⟨q, (n - 1) * 11, none⟩) 1 (c - (n - 1))) w' := fun w' => by
    rw [run_slice_lh w' 48 (some ⟨q, 0, none⟩) (n - 1) c ht' .i64 .i64 ((n - 1 : Nat) : Int) (n : Int) (by omega) (by omega) (by omega), hz]
    simp [Result.andThen, sliced, Addr.add, show n - (n - 1) = 1 by omega, show ¬ c = n - 1 by omega]
    intro h; exact h.symm
  have hne : ((i : Int) == (i : Int) + 1) = false := by simp; omega
  have hp0 : (0 : Int) ≤ (i : Int) + 1 := by omega
  have hp1 : (i : Int) + 1 ≤ (n : Int) := by omega
  have hp2 : ((i : Int) + 1).toNat = i + 1 := by omega
  have hp3 : i + 1 ≤ n := by omega
  clear hz ht' he r3
  rw [hm] at r4 ⊢
  rw [hnews]
  clear hW1 hrow1 hcg1 hsz1 hcur1 hzv hcl hW2 hcg2 hrow2 hsz2 htk hcell hfro hxs hng hnl hnews htake hcs hheap hlen hone hbase hz0 hz2 hv4 hv2 hm hcm
  go_enter Tryd.func47, Tryd.ntmps47
  go_upto_region 5 with fail
  go_region_law (refine step_append_room rfl (.tmp 22) (.tmp 25) 48 rfl 80 i0 11 Tryd.underlying48 HI.out HZ1.out q 0 i c (by simp [Act.eval, Act.put]) A (n - (i + 1)) (c - (i + 1)) news (by simp [Act.eval, Act.put]) s1.out hsrc.out s2.out (by omega) s3.out ?_; rw [← hW.out, HM.out])
  all_goals
    have hcl := HCL.out
    go_wp2
    go_ret
    exact ⟨rfl, OWN.out, CG.out⟩
end Go.Proofs.YtjcgdenkmmgmfaaDoor
namespace Go.Proofs.YtjcgdenkmmgmfaaDoor
open Go.RowKit Dsc
set_option linter.unusedVariables false
set_option linter.unusedSimpArgs false
attribute [local go_sem] Oper.semAt_some
theorem flatM_take {α : Type} {f : α → List Value} {k : Nat} (hf : ∀ x, (f x).length = k) : ∀ (zs : List α) (i : Nat), (zs.flatMap f).take (i * k) = (zs.take i).flatMap f
  | [], i => by simp
  | z :: zs, 0 => by simp
  | z :: zs, i + 1 => by
    rw [List.flatMap_cons, List.take_succ_cons, List.flatMap_cons, show (i + 1) * k = (f z).length + i * k by rw [hf, Nat.succ_mul]; omega, List.take_length_add_append, flatM_take hf zs i]
theorem flatM_drop {α : Type} {f : α → List Value} {k : Nat} (hf : ∀ x, (f x).length = k) : ∀ (zs : List α) (i : Nat), (zs.flatMap f).drop (i * k) = (zs.drop i).flatMap f
  | [], i => by simp
  | z :: zs, 0 => by simp
  | z :: zs, i + 1 => by
    rw [List.flatMap_cons, List.drop_succ_cons, show (i + 1) * k = (f z).length + i * k by rw [hf, Nat.succ_mul]; omega, List.drop_length_add_append, flatM_drop hf zs i]
theorem zip_erase {α β : Type} : ∀ (l : List α) (m : List β) (i : Nat), (l.eraseIdx i).zip (m.eraseIdx i) = (l.zip m).eraseIdx i
  | [], m, i => by simp
  | a :: l, [], i => by cases i <;> simp
  | a :: l, b :: m, 0 => by simp
  | a :: l, b :: m, i + 1 => by simp [zip_erase l m i]
theorem map_erase {α β : Type} (f : α → β) : ∀ (l : List α) (i : Nat), (l.map f).eraseIdx i = (l.eraseIdx i).map f
  | [], i => by simp
  | a :: l, 0 => by simp
  | a :: l, i + 1 => by simp [map_erase f l i]
theorem flatM_erase {α : Type} {f : α → List Value} {k : Nat} (hf : ∀ x, (f x).length = k) (zs : List α) (i : Nat) : (zs.flatMap f).take (i * k) ++ (zs.flatMap f).drop ((i + 1) * k) = (zs.eraseIdx i).flatMap f := by
  rw [flatM_take hf, flatM_drop hf, ← List.flatMap_append, List.eraseIdx_eq_take_drop_succ]
theorem DirAt.ones {w : World} {p : Nat} {es : List Ent} {g : BitVec 64} {lv : Value} {hvs : List Value} (h : DirAt w p es g lv hvs) : ∀ v ∈ ((es.map (·.r)).zip hvs).flatMap entC, v.oneCell' = true := by
  intro v hv
  obtain ⟨x, hx, hv⟩ := List.mem_flatMap.1 hv
  obtain ⟨j, hj⟩ := List.mem_iff_getElem?.1 hx
  obtain ⟨h1, h2⟩ := List.getElem?_zip_eq_some.1 hj
  rw [List.getElem?_map] at h1
  obtain ⟨e, he, h3⟩ := Option.map_eq_some_iff.1 h1
  obtain ⟨-, -, h4, -⟩ := h.el j e x.2 he h2
  unfold entC at hv
  rcases List.mem_append.1 hv with hv | hv
  · revert hv; simp [Dsc.Rec.cells, Value.oneCell']; rintro (rfl | rfl | rfl | rfl | rfl | rfl | rfl | rfl | rfl | rfl) <;> rfl
  · rw [List.mem_singleton.1 hv]; exact h4
/-- An entry is taken out. -/
theorem DirAt.removed {w : World} {p q n c : Nat} {es : List Ent} {g : BitVec 64} {hvs : List Value} (h : DirAt w p es g (.slice (some ⟨q, 0, none⟩) n c) hvs) {w3 w' : World} (i : Nat) (hn : es.length = n) (hi : i < n)
    (hown : w3.ownsRow (p + 1) 80 11 (.slice (some ⟨q, 0, none⟩) (n - 1) c) (n - 1) ((((es.map (·.r)).zip hvs).flatMap entC).take (i * 11) ++ (((es.map (·.r)).zip hvs).flatMap entC).drop ((i + 1) * 11))) (hg : Chg (fun k => k = q) w w3)
    (hw' : w' = (w3.setCell ⟨p, 0, none⟩ (.slice (some ⟨q, 0, none⟩) (n - 1) c)).setCell ⟨p, 1, none⟩ (.int .u64 (uv (g + 1#64)))) : DirAt w' p (es.eraseIdx i) (g + 1#64) (.slice (some ⟨q, 0, none⟩) (n - 1) c) (hvs.eraseIdx i) ∧ Chg (DirB p (.slice (some ⟨q, 0, none⟩) n c)) w w' := by
  have hpq : p ≠ q := by have := (h.own.lt q rfl).1; omega
  have hb3 : w3.heap[p]? = some (.cells #[.slice (some ⟨q, 0, none⟩) n c, .int .u64 (uv g)] 50 (0, 0)) := hg.blk h.blk hpq
  have hcc : Chg (fun b => b = p) w3 w' := by
    rw [hw']; exact (Chg.setCell (B := fun b => b = p) (p := ⟨p, 0, none⟩) _ rfl _).trans (Chg.setCell (B := fun b => b = p) (p := ⟨p, 1, none⟩) _ rfl _)
  have hc : Chg (DirB p (.slice (some ⟨q, 0, none⟩) n c)) w w' := (hg.mono (fun k hk => .inr (by rw [hk]; rfl))).trans (hcc.mono (fun k hk => .inl hk))
  have keepH : ∀ (bs : Nat) (hv2 : Value) (m : Nat) (xs : List Value), w.ownsRow bs 9 1 hv2 m xs → w'.ownsRow bs 9 1 hv2 m xs := fun bs hv2 m xs ho =>
    own_chg ho hc (fun k hk hB => by
      rcases hB with e | e
      · subst e; exact own_apartB ho h.blk (by decide) hk
      · exact own_apartT h.own ho (by decide) k e hk)
  refine ⟨⟨?_, ?_, ?_, ?_⟩, hc⟩
  · rw [hw']; exact heap_setCell_same _ _ _ _ _ _ (heap_setCell_same _ _ _ _ _ _ hb3)
  · rw [flatM_erase (k := 11) entC_len, ← zip_erase] at hown
    have e1 : (es.map (·.r)).eraseIdx i = (es.eraseIdx i).map (·.r) := map_erase (fun e : Ent => e.r) es i
    rw [e1] at hown
    have e2 : (es.eraseIdx i).length = n - 1 := by rw [List.length_eraseIdx, if_pos (by omega), hn]
    rw [e2]
    exact own_chg hown hcc (fun k hk e => by have := (hown.lt k hk).1; omega)
  · rw [List.length_eraseIdx, List.length_eraseIdx, h.len]
  · intro j e hv h1 h2
    rw [List.getElem?_eraseIdx] at h1 h2
    by_cases hj : j < i
    · rw [if_pos hj] at h1 h2
      obtain ⟨x, y, z⟩ := h.el j e hv h1 h2
      exact ⟨x, keepH _ _ _ _ y, z⟩
    · rw [if_neg hj] at h1 h2
      obtain ⟨x, y, z⟩ := h.el (j + 1) e hv h1 h2
      exact ⟨x, keepH _ _ _ _ y, z⟩
theorem Remove_nil (cr : Array Value) (w : World) :
    Calls Tryd.prog 21 #[.pointer none, .agg cr] w fun e w' => e = .returned (.int .i64 1) ∧ Below w.heap.size w w' := by
  go_enter Tryd.func21, Tryd.ntmps21
  go_wp2
  go_ret
  exact ⟨rfl, gr_alloc _ _⟩
set_option maxRecDepth 20000 in
set_option maxHeartbeats 3200000 in
theorem Remove_no (p : Nat) (es : List Ent) (g : BitVec 64) (lv : Value) (hvs : List Value) (r : Rec) (w : World) (hd : DirAt w p es g lv hvs) (hlen : es.length ≤ 256) (hj : ix es r = -1) :
    Calls Tryd.prog 21 #[.pointer (some ⟨p, 0, none⟩), .agg r.cells.toArray] w fun e w' => e = .returned (.int .i64 9) ∧ Below w.heap.size w w' := by
  obtain ⟨W, hW⟩ : ∃ W, W = w.alloc (.cells r.cells.toArray 30) := ⟨_, rfl⟩
  have D := Lib.hid (show Below w.heap.size w W by rw [hW]; exact gr_alloc w _)
  have X := Lib.hid (show W.heap[w.heap.size]? = some (.cells r.cells.toArray 30 (0, 0)) by rw [hW]; exact heap_alloc_new w _)
  have DD := Lib.hid (hd.below D.out)
  have HW := Lib.hid hW
  have AT := Lib.hid (fun w h => at_at p es g lv hvs r (-1) w h hj hlen)
  have CRS := Lib.hid (show r.cells.toArray.size = 10 from rfl)
  obtain ⟨cr, hcr⟩ : ∃ c, r.cells.toArray = c := ⟨_, rfl⟩
  rw [hcr] at HW X AT CRS ⊢
  clear hW hd hlen hj hcr
  go_enter Tryd.func21, Tryd.ntmps21
  go_upto_region 1 with fail
  rw [← HW.out]
  go_wp2_with (first
    | (refine wpList_load_row rfl 30 (.tmp 3) rfl w.heap.size rfl 30 cr (0, 0) _ X.out Tryd.underlying30 rfl (by rw [CRS.out]; kernel_rfl) ?_)
    | (go_at_call 41; go_loud (refine (AT.out _ DD.out).mono ?_; rintro e w1 ⟨rfl, hw⟩; have D1 := Lib.hid (gr_tr D.out hw); clear hw)))
  go_ret
  exact ⟨rfl, D1.out⟩
set_option maxRecDepth 20000 in
set_option maxHeartbeats 3200000 in
theorem Remove_ok (p : Nat) (es : List Ent) (g : BitVec 64) (lv : Value) (hvs : List Value) (r : Rec) (i : Nat) (w : World) (hd : DirAt w p es g lv hvs) (hlen : es.length ≤ 256) (hj : ix es r = i) (hi : i < es.length) :
    Calls Tryd.prog 21 #[.pointer (some ⟨p, 0, none⟩), .agg r.cells.toArray] w fun e w' => e = .returned (.int .i64 0) ∧ ∃ lv', DirAt w' p (es.eraseIdx i) (g + 1#64) lv' (hvs.eraseIdx i) ∧ lv'.ownBlock = lv.ownBlock ∧ Chg (DirB p lv) w w' := by
  obtain ⟨q, c, rfl⟩ : ∃ q c, lv = .slice (some ⟨q, 0, none⟩) es.length c := by
    obtain ⟨-, h⟩ := hd.own
    rcases h with ⟨-, h⟩ | ⟨q, c, -, h, -⟩
    · omega
    · exact ⟨q, c, h⟩
  obtain ⟨W, hW⟩ : ∃ W, W = w.alloc (.cells r.cells.toArray 30) := ⟨_, rfl⟩
  have D := Lib.hid (show Below w.heap.size w W by rw [hW]; exact gr_alloc w _)
  have X := Lib.hid (show W.heap[w.heap.size]? = some (.cells r.cells.toArray 30 (0, 0)) by rw [hW]; exact heap_alloc_new w _)
  have DD := Lib.hid (hd.below D.out)
  have HW := Lib.hid hW
  obtain ⟨n, hn⟩ : ∃ n, es.length = n := ⟨_, rfl⟩
  have HN := Lib.hid hn
  have hn256 := hlen
  have AT := Lib.hid (fun w h => at_at p es g (.slice (some ⟨q, 0, none⟩) es.length c) hvs r i w h hj hlen)
  have ONE := Lib.hid hd.ones
  have CRS := Lib.hid (show r.cells.toArray.size = 10 from rfl)
  obtain ⟨cr, hcr⟩ : ∃ c, r.cells.toArray = c := ⟨_, rfl⟩
  rw [hcr] at HW X AT CRS ⊢
  rw [hn] at DD AT hi hn256 ⊢
  have DEL := Lib.hid (fun w (h : DirAt w p es g (.slice (some ⟨q, 0, none⟩) n c) hvs) => Delete_at (p + 1) q n c i (((es.map (·.r)).zip hvs).flatMap entC) w (by have := h.own; rw [HN.out] at this; exact this) hi hn256 ONE.out)
  clear hW hd hlen hj hcr hn
  go_enter Tryd.func21, Tryd.ntmps21
  go_upto_region 1 with fail
  rw [← HW.out]
  go_upto_region 6 with (first
    | (refine wpList_load_row rfl 30 (.tmp 3) rfl w.heap.size rfl 30 cr (0, 0) _ X.out Tryd.underlying30 rfl (by rw [CRS.out]; kernel_rfl) ?_)
    | (go_at_call 41; go_loud (refine (AT.out _ DD.out).mono ?_; rintro e w1 ⟨rfl, hw⟩; have D1 := Lib.hid (gr_tr D.out hw); have DD1 := Lib.hid (DD.out.below hw); clear hw)))
  have p0 : w1.cell? ⟨p, 0, none⟩ = some (.slice (some ⟨q, 0, none⟩) n c) := (cell_of_row _ _ 0 _ _ _ DD1.out.blk).trans rfl
  go_wp2_with (go_at_call 47; go_loud (refine (DEL.out _ DD1.out).mono ?_; rintro e w2 ⟨rfl, ho, hc⟩; have O2 := Lib.hid ho; have C2 := Lib.hid hc; have hb2 := hc.blk DD1.out.blk (show p ≠ q by have := (DD1.out.own.lt q rfl).1; omega); have p2 : w2.cell? ⟨p, 0, none⟩ = some (.slice (some ⟨q, 0, none⟩) n c) := (cell_of_row _ _ 0 _ _ _ hb2).trans rfl; have p3 : w2.cell? ⟨p, 1, none⟩ = some (.int .u64 (uv g)) := (cell_of_row _ _ 1 _ _ _ hb2).trans rfl; have z2 := frozen_of_row _ _ 0 _ _ hb2; have z3 := frozen_of_row _ _ 1 _ _ hb2; clear ho hc hb2 p0))
  go_ret
  have hx := DirAt.removed (w' := (w2.setCell ⟨p, 0, none⟩ (.slice (some ⟨q, 0, none⟩) (n - 1) c)).setCell ⟨p, 1, none⟩ (.int .u64 (uv (g + 1#64)))) DD1.out i HN.out hi O2.out C2.out rfl
  exact ⟨rfl, _, hx.1, rfl, (Chg.of_below (B := DirB p (.slice (some ⟨q, 0, none⟩) n c)) D1.out).trans hx.2⟩
namespace Dsc
/-- What Log returns. -/
def lgE (es : List Ent) (host : List (BitVec 8)) : Int := if nmOk host then logE (seenL es host) else 2
def lgB (es : List Ent) (g : BitVec 64) (host : List (BitVec 8)) : List (BitVec 8) := if nmOk host then logR g (seenL es host) else []
theorem seen_mem {es : List Ent} {host : List (BitVec 8)} {r : Rec} (h : r ∈ seenL es host) : ∃ e ∈ es, e.r = r := by
  unfold seenL at h
  obtain ⟨e, he, rfl⟩ := List.mem_map.1 h
  exact ⟨e, (List.mem_filter.1 he).1, rfl⟩
end Dsc
theorem DirAt.fits {w : World} {p : Nat} {es : List Ent} {g : BitVec 64} {lv : Value} {hvs : List Value} (h : DirAt w p es g lv hvs) : ∀ e ∈ es, e.r.Fit := by
  intro e he
  obtain ⟨j, hj⟩ := List.mem_iff_getElem?.1 he
  obtain ⟨hv, h1, -⟩ := h.get j e hj
  exact (h.el j e hv hj h1).1
set_option maxRecDepth 20000 in
set_option maxHeartbeats 3200000 in
theorem Log_at (p : Nat) (es : List Ent) (g : BitVec 64) (lv : Value) (hvs : List Value) (host : List (BitVec 8)) (E : Int) (B : List (BitVec 8)) (w : World) (hd : DirAt w p es g lv hvs) (hlen : es.length ≤ 256) (hl : host.length ≤ 9223372036854775807) (hE : lgE es host = E) (hB : lgB es g host = B) :
    Calls Tryd.prog 20 #[.pointer (some ⟨p, 0, none⟩), .string (strOf host)] w fun e w' => ∃ u, e = .returned (.tuple #[u, .int .i64 E]) ∧ BytesV w' u B ∧ Below w.heap.size w w' := by
  obtain ⟨b, hb⟩ : ∃ b, nmOk host = b := ⟨_, rfl⟩
  obtain ⟨L, hL⟩ : ∃ L, seenR es host = L := ⟨_, rfl⟩
  obtain ⟨F, hF⟩ : ∃ F, seenE host = F := ⟨_, rfl⟩
  have SEE := Lib.hid (fun w h => Seen_at p es g lv hvs host F L w h hlen hl hF hL)
  obtain ⟨st, hst⟩ : ∃ st, strOf host = st := ⟨_, rfl⟩
  rw [hst] at SEE ⊢
  have DD := Lib.hid hd
  cases b
  · have e1 : F = 2 := by rw [← hF]; unfold seenE; rw [hb]; rfl
    have e2 : E = 2 := by rw [← hE]; unfold lgE; rw [hb]; rfl
    have e3 : B = [] := by rw [← hB]; unfold lgB; rw [hb]; rfl
    subst e1; subst e2; subst e3
    clear hd hlen hl hE hB hb hL hF hst
    go_enter Tryd.func20, Tryd.ntmps20
    go_wp2_with (go_at_call 19; go_loud (refine (SEE.out _ DD.out).mono ?_; rintro e w1 ⟨u, rfl, ho, hw⟩; have D1 := Lib.hid hw; clear ho hw))
    go_ret2
    exact ⟨_, rfl, BytesV.of_own (World.ownsRow_nil _ 0 5 _), D1.out⟩
  · have e1 : F = 0 := by rw [← hF]; unfold seenE; rw [hb]; rfl
    have eL : L = seenL es host := by rw [← hL]; unfold seenR; rw [hb]; rfl
    have e2 : logE L = E := by rw [← hE, eL]; unfold lgE; rw [hb]; rfl
    have e3 : logR g L = B := by rw [← hB, eL]; unfold lgB; rw [hb]; rfl
    subst e1
    have ENC := Lib.hid (fun v w h => Encode_at g v L E B w h (fun r hr => by rw [eL] at hr; obtain ⟨e, he, rfl⟩ := seen_mem hr; exact hd.fits e he) e2 e3)
    clear hd hlen hl hE hB hb hL hF hst eL e2 e3
    go_enter Tryd.func20, Tryd.ntmps20
    go_upto_region 4 with (go_at_call 19; go_loud (refine (SEE.out _ DD.out).mono ?_; rintro e w1 ⟨u, rfl, ho, hw⟩; have S1 := Lib.hid (SliceV.of_own (f := Dsc.Rec.cells) (k := 10) (by decide) (fun _ => rfl) (xs := L) ho); obtain ⟨a1, c1, rfl⟩ := own_shape ho; have D1 := Lib.hid hw; have DD1 := Lib.hid (DD.out.below hw); clear ho hw))
    have p1 : w1.cell? ⟨p, 1, none⟩ = some (.int .u64 (uv g)) := (cell_of_row _ _ 1 _ _ _ DD1.out.blk).trans rfl
    go_wp2_with (go_at_call 12; go_loud (refine (ENC.out _ _ S1.out).mono ?_; rintro e w2 ⟨u2, rfl, ho, hw⟩; have U2 := Lib.hid (BytesV.of_own ho); have D2 := Lib.hid (gr_tr D1.out hw); clear ho hw))
    go_ret2
    exact ⟨_, rfl, U2.out, D2.out⟩
end Go.Proofs.YtjcgdenkmmgmfaaDoor
namespace Go.Proofs.YtjcgdenkmmgmfaaDoor
open Go.RowKit Dsc
set_option linter.unusedVariables false
set_option linter.unusedSimpArgs false
attribute [local go_sem] Oper.semAt_some
namespace Dsc
def addS (es : List Ent) (r : Rec) (hs : List (List (BitVec 8))) : List Ent := if addE es r hs = 0 then es ++ [⟨r, hs⟩] else es
def addG (es : List Ent) (g : BitVec 64) (r : Rec) (hs : List (List (BitVec 8))) : BitVec 64 := if addE es r hs = 0 then g + 1#64 else g
def remE (es : List Ent) (r : Rec) : Int := if ix es r = -1 then 9 else 0
def remS (es : List Ent) (r : Rec) : List Ent := if ix es r = -1 then es else es.eraseIdx (ix es r).toNat
def remG (es : List Ent) (g : BitVec 64) (r : Rec) : BitVec 64 := if ix es r = -1 then g else g + 1#64
theorem ix_cases (es : List Ent) (r : Rec) : ix es r = -1 ∨ ∃ i : Nat, ix es r = i ∧ i < es.length := by
  unfold ix
  split
  · rename_i h; exact .inr ⟨_, rfl, h⟩
  · exact .inl rfl
end Dsc
theorem Add_any (p : Nat) (es : List Ent) (g : BitVec 64) (lv : Value) (hvs : List Value) (r : Rec) (v : Value) (hs : List (List (BitVec 8))) (w : World) (hd : DirAt w p es g lv hvs) (hes : es.length ≤ 256) (hfit : r.Fit) (hv : SliceV w strC v hs) (hl : ∀ s ∈ hs, s.length ≤ 9223372036854775807) :
    Calls Tryd.prog 18 #[.pointer (some ⟨p, 0, none⟩), .agg r.cells.toArray, v] w fun e w' => e = .returned (.int .i64 (addE es r hs)) ∧ ∃ lv' hvs', DirAt w' p (addS es r hs) (addG es g r hs) lv' hvs' ∧ (lv'.ownBlock = lv.ownBlock ∨ ∃ b, lv'.ownBlock = some b ∧ w.heap.size ≤ b) ∧ Chg (DirB p lv) w w' := by
  by_cases h : addE es r hs = 0
  · refine (Add_ok p es g lv hvs r v hs w hd hes hfit hv hl h).mono ?_
    rintro e w' ⟨rfl, lv', hv', h1, h2, h3, h4⟩
    refine ⟨by rw [h], lv', hvs ++ [hv'], ?_, h2, h4⟩
    unfold addS addG
    rw [if_pos h, if_pos h]
    exact h1
  · refine (Add_no p es g lv hvs r v hs w hd hes hfit hv hl _ rfl h).mono ?_
    rintro e w' ⟨rfl, hb⟩
    refine ⟨rfl, lv, hvs, ?_, .inl rfl, Chg.of_below hb⟩
    unfold addS addG
    rw [if_neg h, if_neg h]
    exact hd.below hb
theorem Remove_any (p : Nat) (es : List Ent) (g : BitVec 64) (lv : Value) (hvs : List Value) (r : Rec) (w : World) (hd : DirAt w p es g lv hvs) (hlen : es.length ≤ 256) :
    Calls Tryd.prog 21 #[.pointer (some ⟨p, 0, none⟩), .agg r.cells.toArray] w fun e w' => e = .returned (.int .i64 (remE es r)) ∧ ∃ lv' hvs', DirAt w' p (remS es r) (remG es g r) lv' hvs' ∧ lv'.ownBlock = lv.ownBlock ∧ Chg (DirB p lv) w w' := by
  rcases ix_cases es r with h | ⟨i, h, hi⟩
  · refine (Remove_no p es g lv hvs r w hd hlen h).mono ?_
    rintro e w' ⟨rfl, hb⟩
    refine ⟨by unfold remE; rw [if_pos h], lv, hvs, ?_, rfl, Chg.of_below hb⟩
    unfold remS remG
    rw [if_pos h, if_pos h]
    exact hd.below hb
  · have hne : ¬ ix es r = -1 := by omega
    refine (Remove_ok p es g lv hvs r i w hd hlen h hi).mono ?_
    rintro e w' ⟨rfl, lv', h1, h2, h3⟩
    refine ⟨by unfold remE; rw [if_neg hne], lv', hvs.eraseIdx i, ?_, h2, h3⟩
    unfold remS remG
    rw [if_neg hne, if_neg hne, h]
    exact h1
/-- A directory that a law has made. -/
def DirS (w0 : World) (p : Nat) (es : List Ent) (g : BitVec 64) (w : World) : Prop := ∃ lv hvs, DirAt w p es g lv hvs ∧ es.length ≤ 256 ∧ (∀ e ∈ es, e.r.ok = true) ∧ w0.heap.size ≤ p ∧ Below w0.heap.size w0 w
theorem DirS.base {w0 w : World} {p : Nat} {es : List Ent} {g : BitVec 64} (h : DirS w0 p es g w) : Below w0.heap.size w0 w := by obtain ⟨_, _, _, _, _, _, h⟩ := h; exact h
theorem DirS.below {w0 w w' : World} {p : Nat} {es : List Ent} {g : BitVec 64} (h : DirS w0 p es g w) (hb : Below w.heap.size w w') : DirS w0 p es g w' := by
  obtain ⟨lv, hvs, h1, h2, h3, h4, h5⟩ := h
  exact ⟨lv, hvs, h1.below hb, h2, h3, h4, gr_tr h5 hb⟩
theorem DirS.chg {w0 w w' : World} {p : Nat} {es : List Ent} {lv : Value} {hvs : List Value} {g : BitVec 64} (h1 : DirAt w p es g lv hvs) (h4 : w0.heap.size ≤ p) (h5 : Below w0.heap.size w0 w) (hc : Chg (DirB p lv) w w') : Below w0.heap.size w0 w' :=
  h5.trans (hc.below (fun k hk => by
    rcases hk with e | e
    · omega
    · have := (h1.own.lt k e).1; omega) h5.size)
theorem DirS.le {w0 w : World} {p : Nat} {es : List Ent} {g : BitVec 64} (h : DirS w0 p es g w) : es.length ≤ 256 := by obtain ⟨_, _, _, h, _⟩ := h; exact h
theorem DirS.oks {w0 w : World} {p : Nat} {es : List Ent} {g : BitVec 64} (h : DirS w0 p es g w) : ∀ e ∈ es, e.r.ok = true := by obtain ⟨_, _, _, _, h, _⟩ := h; exact h
theorem addS_ok {es : List Ent} {r : Rec} {hs : List (List (BitVec 8))} (h1 : es.length ≤ 256) (h2 : ∀ e ∈ es, e.r.ok = true) : (addS es r hs).length ≤ 256 ∧ ∀ e ∈ addS es r hs, e.r.ok = true := by
  unfold addS
  split
  · rename_i h
    obtain ⟨a1, a2, a3, a4, a5⟩ := addE_ok h
    refine ⟨by rw [List.length_append]; simp; omega, fun e he => ?_⟩
    rcases List.mem_append.1 he with he | he
    · exact h2 e he
    · rw [List.mem_singleton.1 he]; exact a1
  · exact ⟨h1, h2⟩
theorem remS_ok {es : List Ent} {r : Rec} (h1 : es.length ≤ 256) (h2 : ∀ e ∈ es, e.r.ok = true) : (remS es r).length ≤ 256 ∧ ∀ e ∈ remS es r, e.r.ok = true := by
  unfold remS
  split
  · exact ⟨h1, h2⟩
  · exact ⟨Nat.le_trans (List.eraseIdx_sublist _ _).length_le h1, fun e he => h2 e ((List.eraseIdx_sublist _ _).mem he)⟩
theorem Add_s (w0 : World) (p : Nat) (es : List Ent) (g : BitVec 64) (r : Rec) (v : Value) (hs : List (List (BitVec 8))) (w : World) (h : DirS w0 p es g w) (hfit : r.Fit) (hv : SliceV w strC v hs) (hl : ∀ s ∈ hs, s.length ≤ 9223372036854775807) :
    Calls Tryd.prog 18 #[.pointer (some ⟨p, 0, none⟩), .agg r.cells.toArray, v] w fun e w' => e = .returned (.int .i64 (addE es r hs)) ∧ DirS w0 p (addS es r hs) (addG es g r hs) w' := by
  obtain ⟨lv, hvs, h1, h2, h3, h4, h5⟩ := h
  refine (Add_any p es g lv hvs r v hs w h1 h2 hfit hv hl).mono ?_
  rintro e w' ⟨rfl, lv', hvs', a1, -, a3⟩
  exact ⟨rfl, lv', hvs', a1, (addS_ok h2 h3).1, (addS_ok h2 h3).2, h4, DirS.chg h1 h4 h5 a3⟩
theorem Remove_s (w0 : World) (p : Nat) (es : List Ent) (g : BitVec 64) (r : Rec) (w : World) (h : DirS w0 p es g w) :
    Calls Tryd.prog 21 #[.pointer (some ⟨p, 0, none⟩), .agg r.cells.toArray] w fun e w' => e = .returned (.int .i64 (remE es r)) ∧ DirS w0 p (remS es r) (remG es g r) w' := by
  obtain ⟨lv, hvs, h1, h2, h3, h4, h5⟩ := h
  refine (Remove_any p es g lv hvs r w h1 h2).mono ?_
  rintro e w' ⟨rfl, lv', hvs', a1, -, a3⟩
  exact ⟨rfl, lv', hvs', a1, (remS_ok h2 h3).1, (remS_ok h2 h3).2, h4, DirS.chg h1 h4 h5 a3⟩
theorem Seen_s (w0 : World) (p : Nat) (es : List Ent) (g : BitVec 64) (host : List (BitVec 8)) (E : Int) (L : List Rec) (w : World) (h : DirS w0 p es g w) (hl : host.length ≤ 9223372036854775807) (hE : seenE host = E) (hL : seenR es host = L) :
    Calls Tryd.prog 19 #[.pointer (some ⟨p, 0, none⟩), .string (strOf host)] w fun e w' => ∃ a c, e = .returned (.tuple #[.slice a L.length c, .int .i64 E]) ∧ SliceV w' Dsc.Rec.cells (.slice a L.length c) L ∧ DirS w0 p es g w' ∧ Below w.heap.size w w' := by
  obtain ⟨lv, hvs, h1, h2, h3, h4, h5⟩ := h
  refine (Seen_at p es g lv hvs host E L w h1 h2 hl hE hL).mono ?_
  rintro e w' ⟨u, rfl, ho, hb⟩
  have hs := SliceV.of_own (f := Dsc.Rec.cells) (k := 10) (by decide) (fun _ => rfl) (xs := L) ho
  obtain ⟨a, c, rfl⟩ := own_shape ho
  exact ⟨a, c, rfl, hs, ⟨lv, hvs, h1.below hb, h2, h3, h4, gr_tr h5 hb⟩, hb⟩
theorem Log_s (w0 : World) (p : Nat) (es : List Ent) (g : BitVec 64) (host : List (BitVec 8)) (E : Int) (B : List (BitVec 8)) (w : World) (h : DirS w0 p es g w) (hl : host.length ≤ 9223372036854775807) (hE : lgE es host = E) (hB : lgB es g host = B) :
    Calls Tryd.prog 20 #[.pointer (some ⟨p, 0, none⟩), .string (strOf host)] w fun e w' => ∃ u, e = .returned (.tuple #[u, .int .i64 E]) ∧ BytesV w' u B ∧ DirS w0 p es g w' ∧ Below w.heap.size w w' := by
  obtain ⟨lv, hvs, h1, h2, h3, h4, h5⟩ := h
  refine (Log_at p es g lv hvs host E B w h1 h2 hl hE hB).mono ?_
  rintro e w' ⟨u, rfl, ho, hb⟩
  exact ⟨u, rfl, ho, ⟨lv, hvs, h1.below hb, h2, h3, h4, gr_tr h5 hb⟩, hb⟩
theorem Gen_s (w0 : World) (p : Nat) (es : List Ent) (g : BitVec 64) (w : World) (h : DirS w0 p es g w) :
    Calls Tryd.prog 22 #[.pointer (some ⟨p, 0, none⟩)] w fun e w' => e = .returned (.int .u64 (uv g)) ∧ w = w' := by
  obtain ⟨lv, hvs, h1, -⟩ := h
  exact Gen_at p es g lv hvs w h1
theorem DirS.new {w0 w W : World} (hb : Below w0.heap.size w0 w) (hW : W = w.alloc (.cells #[.slice none 0 0, .int .u64 0] 50)) : DirS w0 w.heap.size [] 0#64 W :=
  ⟨.slice none 0 0, [], ⟨by rw [hW]; exact heap_alloc_new w _, World.ownsRow_nil _ _ _ _, rfl, by intro i e hv h; simp at h⟩, by simp, by simp, hb.size, by rw [hW]; exact gr_tr hb (gr_alloc w _)⟩
namespace Dsc
structure Stp where
  kd : Int
  r : Rec
  hv : Value
  h : List (BitVec 8)
def Stp.cells (x : Stp) : List Value := [.int .i64 x.kd] ++ ((Rec.cells x.r) ++ ([x.hv] ++ ([.string (strOf x.h)] ++ ([]))))
def Stp.R (w : World) (x : Stp) : Prop := I64 x.kd ∧ Rec.R w x.r ∧ (∃ xs, SliceV w (fun y : List (BitVec 8) => [.string (strOf y)]) x.hv xs ∧ ∀ y ∈ xs, (fun y : List (BitVec 8) => y.length ≤ 9223372036854775807) y) ∧ x.h.length ≤ 9223372036854775807
theorem Stp.cells_len : ∀ y, (Stp.cells y).length = 13 := fun _ => rfl
set_option maxRecDepth 100000 in
theorem opens_Stp (w : World) : Opens Tryd.prog w 53 Stp Stp.cells (Stp.R w) := by
  intro H enc sp held fuel cs x h
  obtain ⟨hl, hfs⟩ := trod_fields Tryd.underlying53 h
  rw [show Tryd.prog.cellsOf 53 = 13 by kernel_rfl] at hl
  obtain ⟨y0, a0, r0⟩ := opens_field hfs 0 _ rfl 0 1 rfl (by kernel_rfl) (opens_i64 Tryd.underlying3)
  obtain ⟨y1, a1, r1⟩ := opens_field hfs 1 _ rfl 1 10 rfl (by kernel_rfl) ((opens_Rec w))
  obtain ⟨y2, a2, r2⟩ := opens_field hfs 2 _ rfl 11 1 rfl (by kernel_rfl) ((opens_slice (k := 1) Tryd.underlying51 (by kernel_rfl) (by decide) (fun _ => rfl) (opens_str Tryd.underlying9)))
  obtain ⟨y3, a3, r3⟩ := opens_field hfs 3 _ rfl 12 1 rfl (by kernel_rfl) (opens_str Tryd.underlying9)
  have e := (glue a0 (by decide : 0 + 1 = 1) (glue a1 (by decide : 1 + 10 = 11) (glue a2 (by decide : 11 + 1 = 12) (glue a3 (by decide : 12 + 1 = 13) (glue_end hl)))))
  rw [List.drop_zero] at e
  exact ⟨⟨y0, y1, y2, y3⟩, e, ⟨r0, r1, r2, r3⟩⟩
end Dsc
theorem rng_sub {w : World} {g o : Nat} {a b c : List Value} (h : w.rangeAt g o (a ++ (b ++ c))) : w.rangeAt g (o + a.length) b := fun j v hj => by
  have h2 := h (a.length + j) v (by
    rw [List.getElem?_append_right (by omega), Nat.add_sub_cancel_left, List.getElem?_append_left (List.getElem?_eq_some_iff.1 hj).1, hj])
  rw [Nat.add_assoc]; exact h2
/-- The cells of a step in memory. -/
theorem stp_at {w : World} {v : Value} {xs : List Stp} (h : SliceV w Stp.cells v xs) (k : Nat) (x : Stp) (hk : xs[k]? = some x) :
    ∃ g o c, v = .slice (some ⟨g, o, none⟩) xs.length c ∧ w.cell? ⟨g, o + k * 13, none⟩ = some (.int .i64 x.kd) ∧ w.rangeAt g (o + k * 13 + 1) x.r.cells ∧ w.cell? ⟨g, o + k * 13 + 11, none⟩ = some x.hv ∧ w.cell? ⟨g, o + k * 13 + 12, none⟩ = some (.string (strOf x.h)) := by
  obtain ⟨g, o, c, e, hr⟩ := SliceV.rng Stp.cells_len h k x hk (by decide)
  exact ⟨g, o, c, e, hr 0 _ rfl, rng_sub (a := [.int .i64 x.kd]) hr, hr 11 _ rfl, hr 12 _ rfl⟩
end Go.Proofs.YtjcgdenkmmgmfaaDoor
namespace Go.Proofs.YtjcgdenkmmgmfaaDoor
open Go.RowKit Dsc
set_option linter.unusedVariables false
set_option linter.unusedSimpArgs false
attribute [local go_sem] Oper.semAt_some
theorem long_is (r : Rec) : ∃ z : Bool, ∀ w, Calls Tryd.prog 9 #[.agg r.cells.toArray] w fun e w' => e = .returned (.bool z) ∧ Below w.heap.size w w' := by
  obtain ⟨s1, h1⟩ : ∃ s, strOf r.sv = s := ⟨_, rfl⟩
  obtain ⟨s2, h2⟩ : ∃ s, strOf r.sb = s := ⟨_, rfl⟩
  obtain ⟨s3, h3⟩ : ∃ s, strOf r.ad = s := ⟨_, rfl⟩
  refine ⟨decide ((400 : Int) < (s1.size : Int)) || (decide ((400 : Int) < (s2.size : Int)) || decide ((400 : Int) < (s3.size : Int))), fun w => ?_⟩
  obtain ⟨W, hW⟩ : ∃ W, W = w.alloc (.cells r.cells.toArray 30) := ⟨_, rfl⟩
  have D := Lib.hid (show Below w.heap.size w W by rw [hW]; exact gr_alloc w _)
  have X := Lib.hid (show W.heap[w.heap.size]? = some (.cells r.cells.toArray 30 (0, 0)) by rw [hW]; exact heap_alloc_new w _)
  have HW := Lib.hid hW
  clear hW
  have q7 : W.cell? ⟨w.heap.size, 7, none⟩ = some (.string s1) := by rw [← h1]; exact (cell_of_row _ _ 7 _ _ _ X.out).trans rfl
  have q8 : W.cell? ⟨w.heap.size, 8, none⟩ = some (.string s2) := by rw [← h2]; exact (cell_of_row _ _ 8 _ _ _ X.out).trans rfl
  have q9 : W.cell? ⟨w.heap.size, 9, none⟩ = some (.string s3) := by rw [← h3]; exact (cell_of_row _ _ 9 _ _ _ X.out).trans rfl
  obtain ⟨cr, hcr⟩ : ∃ c, r.cells.toArray = c := ⟨_, rfl⟩
  rw [hcr] at HW ⊢
  clear h1 h2 h3 hcr X
  obtain ⟨n1, e1⟩ : ∃ n, s1.size = n := ⟨_, rfl⟩
  obtain ⟨n2, e2⟩ : ∃ n, s2.size = n := ⟨_, rfl⟩
  obtain ⟨n3, e3⟩ : ∃ n, s3.size = n := ⟨_, rfl⟩
  rw [e1, e2, e3]
  by_cases g1 : (400 : Int) < (n1 : Int)
  · rw [decide_eq_true g1, Bool.true_or]
    go_enter Tryd.func9, Tryd.ntmps9
    go_upto_region 1 with fail
    rw [← HW.out]
    go_wp2
    go_ret
    exact ⟨rfl, D.out⟩
  · rw [decide_eq_false g1, Bool.false_or]
    by_cases g2 : (400 : Int) < (n2 : Int)
    · rw [decide_eq_true g2, Bool.true_or]
      go_enter Tryd.func9, Tryd.ntmps9
      go_upto_region 1 with fail
      rw [← HW.out]
      go_wp2
      go_ret
      exact ⟨rfl, D.out⟩
    · rw [decide_eq_false g2, Bool.false_or]
      by_cases g3 : (400 : Int) < (n3 : Int)
      · rw [decide_eq_true g3]
        go_enter Tryd.func9, Tryd.ntmps9
        go_upto_region 1 with fail
        rw [← HW.out]
        go_wp2
        go_ret
        exact ⟨rfl, D.out⟩
      · rw [decide_eq_false g3]
        go_enter Tryd.func9, Tryd.ntmps9
        go_upto_region 1 with fail
        rw [← HW.out]
        go_wp2
        go_ret
        exact ⟨rfl, D.out⟩
/-- A call that returns some bool. -/
def SomeB (w : World) (e : Ending) (w' : World) : Prop := ∃ z : Bool, e = .returned (.bool z) ∧ Below w.heap.size w w'
set_option maxHeartbeats 6400000 in
set_option maxRecDepth 20000 in
theorem few_any (v : Value) (xs : List Stp) (w : World) (hv : SliceV w Stp.cells v xs) (hR : ∀ x ∈ xs, Stp.R w x) :
    Calls Tryd.prog 17 #[v] w (SomeB w) := by
  have SV := Lib.hid hv; have HR := Lib.hid hR
  obtain ⟨a, c, rfl, -, hm1, hm2, -⟩ := id hv
  obtain ⟨n, hn⟩ : ∃ n, xs.length = n := ⟨_, rfl⟩
  have hmax : n ≤ 9223372036854775807 := by omega
  have HN := Lib.hid hn
  rw [hn]
  clear hn hm1 hm2 hv hR
  go_enter Tryd.func17, Tryd.ntmps17
  go_wp2
  go_loopw [3] (fun i wr => ∃ k : Nat, k ≤ n ∧ i = .int .i64 k ∧ Below w.heap.size w wr) (fun i _ => n - (intOf i).toNat)
  case atStart => exact ⟨0, by omega, rfl, Below.refl _ _⟩
  case round =>
    obtain ⟨k, hk, rfl, hb⟩ := hrel
    have C := Lib.hid hb
    clear hb
    by_cases hlt : k < n
    · by_cases h41 : (k : Int) < 41
      · obtain ⟨x, hx⟩ : ∃ x, xs[k]? = some x := ⟨_, List.getElem?_eq_getElem (by rw [HN.out]; exact hlt)⟩
        obtain ⟨g, o, cq, he, x0, x1, x2, x3⟩ := stp_at SV.out k x hx
        injection he with he1 he2 he3
        subst he1; subst he3
        obtain ⟨-, -, ⟨hs, hsv, hsl⟩, -⟩ := HR.out x (List.mem_of_getElem? hx)
        obtain ⟨ah, ch, hhv, -, hh1, hh2, -⟩ := id hsv
        rw [hhv] at x2 hsv
        have HS := Lib.hid hsv
        have R1 := Lib.hid (rng_below x1 C.out)
        have c2 := below_cellE C.out x2
        have c3 := below_cellE C.out x3
        obtain ⟨zl, hzl⟩ := long_is x.r
        have LNG := Lib.hid hzl
        have CLL := Lib.hid (rec_len x.r)
        obtain ⟨cl, hcl⟩ : ∃ cl, x.r.cells = cl := ⟨_, rfl⟩
        rw [hcl] at R1 CLL LNG
        obtain ⟨st, hst⟩ : ∃ s, strOf x.h = s := ⟨_, rfl⟩
        rw [hst] at c3
        obtain ⟨m, hm⟩ : ∃ m, hs.length = m := ⟨_, rfl⟩
        have HM := Lib.hid hm
        have hm63 : m ≤ 9223372036854775807 := by omega
        rw [hm] at c2 x2
        have HX2 := Lib.hid x2
        clear hx x0 x1 x2 x3 hsl hsv hzl hcl hst hm hhv hh1 hh2 he2
        cases zl
        · by_cases g1 : (8 : Int) < (m : Int)
          · go_wp2_with (first
              | (refine wpList_load_mid rfl 30 (.tmp 18) rfl g (o + k * 13 + 1) rfl cl _ R1.out Tryd.underlying30 rfl (by rw [CLL.out]; kernel_rfl) ?_)
              | (go_at_call 9; go_loud (refine (LNG.out _).mono ?_; rintro e w4 ⟨rfl, hw⟩; have C1 := Lib.hid (gr_tr C.out hw); have e2 := below_cellE hw c2; have e3 := below_cellE hw c3; clear hw c2 c3)))
            (go_ret; exact ⟨_, rfl, C1.out⟩)
          · by_cases g2 : (300 : Int) < (st.size : Int)
            · go_wp2_with (first
                | (refine wpList_load_mid rfl 30 (.tmp 18) rfl g (o + k * 13 + 1) rfl cl _ R1.out Tryd.underlying30 rfl (by rw [CLL.out]; kernel_rfl) ?_)
                | (go_at_call 9; go_loud (refine (LNG.out _).mono ?_; rintro e w4 ⟨rfl, hw⟩; have C1 := Lib.hid (gr_tr C.out hw); have e2 := below_cellE hw c2; have e3 := below_cellE hw c3; clear hw c2 c3)))
              (go_ret; exact ⟨_, rfl, C1.out⟩)
            · go_wp2_with (first
                | (refine wpList_load_mid rfl 30 (.tmp 18) rfl g (o + k * 13 + 1) rfl cl _ R1.out Tryd.underlying30 rfl (by rw [CLL.out]; kernel_rfl) ?_)
                | (go_at_call 9; go_loud (refine (LNG.out _).mono ?_; rintro e w4 ⟨rfl, hw⟩; have C1 := Lib.hid (gr_tr C.out hw); have e2 := below_cellE hw c2; have e3 := below_cellE hw c3; clear hw c2 c3)))
              clear e2 e3 R1
              go_loopw [4] (fun i wr => ∃ j : Nat, j ≤ m ∧ i = .int .i64 j ∧ Below w.heap.size w wr) (fun i _ => m - (intOf i).toNat)
              case atStart => exact ⟨0, by omega, rfl, C1.out⟩
              case round =>
                obtain ⟨j, hj, rfl, hb⟩ := hrel
                have C2 := Lib.hid hb
                have c2 := below_cellE hb HX2.out
                clear hb
                by_cases hlj : j < m
                · obtain ⟨s, hs1⟩ : ∃ s, hs[j]? = some s := ⟨_, List.getElem?_eq_getElem (by rw [HM.out]; exact hlj)⟩
                  obtain ⟨g2, o2, c2', he, hc⟩ := str_rng HS.out j s hs1
                  injection he with he he' he''
                  subst he; subst he''
                  have hc2 := below_cellE C2.out hc
                  obtain ⟨sj, hsj⟩ : ∃ st, strOf s = st := ⟨_, rfl⟩
                  rw [hsj] at hc2
                  clear hs1 hc he' hsj
                  by_cases g3 : (300 : Int) < (sj.size : Int)
                  · go_wp2
                    go_ret
                    exact ⟨_, rfl, C2.out⟩
                  · go_wp2
                    go_roundw
                    case rel => exact ⟨j + 1, by omega, by go_num, C2.out⟩
                    case measure => simp [intOf]; omega
                · obtain rfl : j = m := by omega
                  go_wp2
                  go_roundw
                  case rel => exact ⟨k + 1, by omega, by go_num, C2.out⟩
                  case measure => simp [intOf]; omega
        · go_wp2_with (first
            | (refine wpList_load_mid rfl 30 (.tmp 18) rfl g (o + k * 13 + 1) rfl cl _ R1.out Tryd.underlying30 rfl (by rw [CLL.out]; kernel_rfl) ?_)
            | (go_at_call 9; go_loud (refine (LNG.out _).mono ?_; rintro e w4 ⟨rfl, hw⟩; have C1 := Lib.hid (gr_tr C.out hw); clear hw)))
          (go_ret; exact ⟨_, rfl, C1.out⟩)
      · go_wp2
        go_ret
        exact ⟨_, rfl, C.out⟩
    · obtain rfl : k = n := by omega
      go_wp2
      go_ret
      exact ⟨_, rfl, C.out⟩
end Go.Proofs.YtjcgdenkmmgmfaaDoor
namespace Go.Proofs.YtjcgdenkmmgmfaaDoor
open Go.RowKit Dsc
set_option linter.unusedVariables false
set_option linter.unusedSimpArgs false
attribute [local go_sem] Oper.semAt_some
theorem wpList_load_midG {P : Program} {ops : Array Oper} {rest : List Oper} {o : Oper} {a : Act} {w : World} {Q : Exit → Act → World → Prop} (hw : Region.wanted o (yielded ops a.tmps) = true) (ty : TypeId) (x : Operand) (ho : o.op = .load ty x)
    (b off : Nat) (hx : a.eval x = .pointer (some ⟨b, off, none⟩)) (cs : List Value) (d : TypeDesc) (hc : w.rangeAt b off cs)
    (hu : P.underlying ty = some d) (hd : d.isRow = true) (hi : (P.info? ty).map (·.size) = some cs.length)
    (h : wpList P ops Q rest (a.put o.dst (.agg cs.toArray)) w) : wpList P ops Q (o :: rest) a w :=
  wpList_step fun K hK => by rw [if_pos hw]; exact wp_load_mid ty x ho b off hx cs d hc hu hd hi (hK _ _ h)
theorem one_str (w : World) (s : List (BitVec 8)) : SliceV (w.alloc (.cells #[.string (strOf s)] 9)) strC (.slice (some ⟨w.heap.size, 0, none⟩) 1 1) [s] := by
  exact ⟨some ⟨w.heap.size, 0, none⟩, 1, rfl, by simp, by simp, by simp, Row.lit w #[.string (strOf s)] 9 (0, 0)⟩
namespace Dsc
/-- All that has been added for another host. -/
def Onl (es : List Ent) (other : List (BitVec 8)) : Prop := ∀ e ∈ es, e.hs = [other]
theorem Onl.add {es : List Ent} {other : List (BitVec 8)} (h : Onl es other) (r : Rec) : Onl (addS es r [other]) other := by
  unfold addS
  split
  · intro e he
    rcases List.mem_append.1 he with he | he
    · exact h e he
    · rw [List.mem_singleton.1 he]
  · exact h
theorem Onl.none {es : List Ent} {other host : List (BitVec 8)} (h : Onl es other) (hne : host ≠ other) : seenL es host = [] := by
  unfold seenL
  rw [List.map_eq_nil_iff, List.filter_eq_nil_iff]
  intro e he
  rw [h e he]
  unfold mayB
  simp [hne]
theorem seen_add (es : List Ent) (r : Rec) (host : List (BitVec 8)) : seenL (es ++ [⟨r, []⟩]) host = seenL es host ++ [r] := by
  unfold seenL
  rw [List.filter_append, List.map_append]
  rfl
theorem seen_le (es : List Ent) (host : List (BitVec 8)) : (seenL es host).length ≤ es.length := by
  unfold seenL; rw [List.length_map]; exact List.length_filter_le _ _
theorem log_fine {es : List Ent} {host : List (BitVec 8)} (h1 : es.length ≤ 256) (h2 : ∀ e ∈ es, e.r.ok = true) (hn : nmOk host = true) : lgE es host = 0 := by
  unfold lgE
  rw [if_pos hn]
  unfold logE
  have := seen_le es host
  rw [if_neg (by omega), if_pos]
  rw [List.all_eq_true]
  intro r hr
  obtain ⟨e, he, rfl⟩ := seen_mem hr
  exact h2 e he
end Dsc
set_option maxHeartbeats 6400000 in
set_option maxRecDepth 20000 in
theorem lawHides (v : Value) (xs : List Stp) (host other : List (BitVec 8)) (w : World) (hv : SliceV w Stp.cells v xs) (hR : ∀ x ∈ xs, Stp.R w x) (hh : host.length ≤ 9223372036854775807) (ho : other.length ≤ 9223372036854775807) :
    Calls Tryd.prog 6 #[v, .string (strOf host), .string (strOf other)] w fun e w' => e = .returned (.bool true) ∧ Below w.heap.size w w' := by
  have FEW := Lib.hid (few_any v xs w hv hR)
  have SV := Lib.hid hv; have HR := Lib.hid hR
  obtain ⟨a, c, rfl, -, hm1, hm2, -⟩ := id hv
  obtain ⟨n, hn⟩ : ∃ n, xs.length = n := ⟨_, rfl⟩
  have hmax : n ≤ 9223372036854775807 := by omega
  have HN := Lib.hid hn
  rw [hn] at FEW SV ⊢
  have HH := Lib.hid hh; have HO := Lib.hid ho
  have BEQ := Lib.hid (strOf_beq host other)
  obtain ⟨sh, hsh⟩ : ∃ s, strOf host = s := ⟨_, rfl⟩
  obtain ⟨so, hso⟩ : ∃ s, strOf other = s := ⟨_, rfl⟩
  have HSH := Lib.hid hsh; have HSO := Lib.hid hso
  rw [hsh, hso] at BEQ ⊢
  clear hn hm1 hm2 hv hR hh ho hsh hso
  obtain ⟨lh, hlh⟩ : ∃ n, sh.size = n := ⟨_, rfl⟩
  obtain ⟨lo, hlo⟩ : ∃ n, so.size = n := ⟨_, rfl⟩
  obtain ⟨bq, hbq⟩ : ∃ b, (host == other) = b := ⟨_, rfl⟩
  have hbe : (sh.toList == so.toList) = bq := by rw [BEQ.out, hbq]
  have HBQ := Lib.hid hbq
  clear hbq
  go_enter Tryd.func6, Tryd.ntmps6
  by_cases g1 : (300 : Int) < (lh : Int)
  · go_wp2_with (first
      | (go_at_call 17; go_loud (refine FEW.out.mono ?_; rintro e w1 ⟨z, rfl, hw⟩; have D1 := Lib.hid hw; clear hw; cases z))
      | (go_at_call 8; go_loud (refine (known_any _).mono ?_; rintro e w9 ⟨rfl, hw⟩; have D9 := Lib.hid hw; clear hw)))
    all_goals
      go_ret
      exact ⟨rfl, gr_tr D1.out D9.out⟩
  by_cases g2 : (300 : Int) < (lo : Int)
  · go_wp2_with (first
      | (go_at_call 17; go_loud (refine FEW.out.mono ?_; rintro e w1 ⟨z, rfl, hw⟩; have D1 := Lib.hid hw; clear hw; cases z))
      | (go_at_call 8; go_loud (refine (known_any _).mono ?_; rintro e w9 ⟨rfl, hw⟩; have D9 := Lib.hid hw; clear hw)))
    all_goals
      go_ret
      exact ⟨rfl, gr_tr D1.out D9.out⟩
  cases bq
  · have HNE := Lib.hid (show host ≠ other from by have := HBQ.out; simpa using this)
    go_upto_region 3 with (first
      | (go_at_call 17; go_loud (refine FEW.out.mono ?_; rintro e w1 ⟨z, rfl, hw⟩; have D1 := Lib.hid hw; clear hw; cases z))
      | (go_at_call 8; go_loud (refine (known_any _).mono ?_; rintro e w9 ⟨rfl, hw⟩; have D9 := Lib.hid hw; clear hw)))
    · go_ret
      exact ⟨rfl, gr_tr D1.out D9.out⟩
    clear hbe
    obtain ⟨W, hW⟩ : ∃ x, x = w1.alloc (.cells #[.slice none 0 0, .int .u64 0] 50) := ⟨_, rfl⟩
    have DS0 := Lib.hid (DirS.new (w0 := w) D1.out hW)
    obtain ⟨p, hp⟩ : ∃ x, w1.heap.size = x := ⟨_, rfl⟩
    rw [hp] at DS0
    have HW := Lib.hid hW; have HP := Lib.hid hp
    clear hW hp
    go_upto_region 4 with fail
    rw [← HW.out, HP.out]
    clear HW HP
    go_wp2
    go_loopw [8] (fun i wr => ∃ (k : Nat) (es : List Ent) (g : BitVec 64), k ≤ n ∧ i = .int .i64 k ∧ DirS w p es g wr ∧ Onl es other ∧ (∀ e ∈ es, True)) (fun i _ => n - (intOf i).toNat)
    case atStart => exact ⟨0, [], 0#64, by omega, rfl, DS0.out, by intro e he; simp at he, by simp⟩
    case round =>
      obtain ⟨k, es, g, hk, rfl, hds, hon, -⟩ := hrel
      have DS := Lib.hid hds; have ON := Lib.hid hon
      clear hds hon
      by_cases hlt : k < n
      · obtain ⟨x, hx⟩ : ∃ x, xs[k]? = some x := ⟨_, List.getElem?_eq_getElem (by rw [HN.out]; exact hlt)⟩
        obtain ⟨gq, o, cq, he, x0, x1, x2, x3⟩ := stp_at SV.out k x hx
        injection he with he1 he2 he3
        subst he1; subst he3
        have FIT := Lib.hid (Rec.R.fit (HR.out x (List.mem_of_getElem? hx)).2.1)
        have c0 := below_cellE DS.out.base x0
        have R1 := Lib.hid (rng_below x1 DS.out.base)
        have ADD := Lib.hid (fun v w' h hv => Add_s w p es g x.r v [other] w' h FIT.out hv (by intro s hs; rw [List.mem_singleton.1 hs]; exact HO.out))
        have CLL := Lib.hid (rec_len x.r)
        obtain ⟨cl, hcl⟩ : ∃ cl, x.r.cells = cl := ⟨_, rfl⟩
        rw [hcl] at R1 CLL ADD
        obtain ⟨kd, hkd⟩ : ∃ y, x.kd = y := ⟨_, rfl⟩
        rw [hkd] at c0
        clear hx x0 x1 x2 x3 hcl he2 hkd
        have ADD2 := Lib.hid (fun v w' h hv => ADD.out v w' h hv)
        obtain ⟨eo, heo⟩ : ∃ y, addE es x.r [other] = y := ⟨_, rfl⟩
        rw [heo] at ADD2
        clear heo ADD
        by_cases h1 : kd = 1
        · subst h1
          go_wp2_with (first
            | (refine wpList_load_mid rfl 30 (.tmp 56) rfl gq (o + k * 13 + 1) rfl cl _ R1.out Tryd.underlying30 rfl (by rw [CLL.out]; kernel_rfl) ?_)
            | (go_at_call 18; go_loud (refine (ADD2.out _ _ (DS.out.below (gr_alloc _ _)) (by rw [← HSO.out]; exact one_str wr other)).mono ?_; rintro e w4 ⟨rfl, hds⟩; have DS4 := Lib.hid hds; clear hds)))
          go_roundw
          case rel => exact ⟨k + 1, _, _, by omega, by go_num, DS4.out, ON.out.add x.r, by simp⟩
          case measure => simp [intOf]; omega
        · have h1' : (kd == 1) = false := by simpa using h1
          go_wp2
          go_roundw
          case rel => exact ⟨k + 1, es, g, by omega, by go_num, DS.out, ON.out, by simp⟩
          case measure => simp [intOf]; omega
      · obtain rfl : n = k := by omega
        have hns := Lib.hid (ON.out.none HNE.out)
        obtain ⟨E, hE⟩ : ∃ y, seenE host = y := ⟨_, rfl⟩
        have hR2 : seenR es host = [] := by unfold seenR; split; exact hns.out; rfl
        have SEE := Lib.hid (fun w' h => Seen_s w p es g host E [] w' h HH.out hE hR2)
        rw [HSH.out] at SEE
        have HE := Lib.hid hE
        clear hR2 hE ON
        by_cases h2 : E = 0
        · subst h2
          go_upto_region 14 with (go_at_call 19; go_loud (refine (SEE.out _ DS.out).mono ?_; rintro e w4 ⟨a4, c4, rfl, -, hds, -⟩; have DS4 := Lib.hid hds; clear hds))
          clear SEE FEW
          go_wp2
          go_loopw [11, 12] (fun al i wr => ∃ (k : Nat) (es : List Ent) (g : BitVec 64) (m : Nat), k ≤ n ∧ i = .int .i64 k ∧ DirS w p es g wr ∧ al = .int .i64 m ∧ m ≤ 256 ∧ Hid ((seenL es host).length = m)) (fun _ i _ => n - (intOf i).toNat)
          case atStart => exact ⟨0, es, g, 0, by omega, rfl, DS4.out, rfl, by omega, Lib.hid (by rw [hns.out]; rfl)⟩
          case round =>
            obtain ⟨k, es, g, m, hk, rfl, hds, rfl, hm, HM⟩ := hrel
            have DS := Lib.hid hds
            clear hds
            by_cases hlt : k < n
            · obtain ⟨x, hx⟩ : ∃ x, xs[k]? = some x := ⟨_, List.getElem?_eq_getElem (by rw [HN.out]; exact hlt)⟩
              obtain ⟨gq, o, cq, he, x0, x1, x2, x3⟩ := stp_at SV.out k x hx
              injection he with he1 he2 he3
              subst he1; subst he3
              have FIT := Lib.hid (Rec.R.fit (HR.out x (List.mem_of_getElem? hx)).2.1)
              have c0 := below_cellE DS.out.base x0
              have R1 := Lib.hid (rng_below x1 DS.out.base)
              have ADD := Lib.hid (fun w' h => Add_s w p es g x.r (.slice none 0 0) [] w' h FIT.out (SliceV.nilV w') (by simp))
              have CLL := Lib.hid (rec_len x.r)
              obtain ⟨cl, hcl⟩ : ∃ cl, x.r.cells = cl := ⟨_, rfl⟩
              rw [hcl] at R1 CLL ADD
              obtain ⟨kd, hkd⟩ : ∃ y, x.kd = y := ⟨_, rfl⟩
              rw [hkd] at c0
              clear hx x0 x1 x2 x3 hcl he2 hkd
              have ADD2 := Lib.hid (fun w' h => ADD.out w' h)
              obtain ⟨eo, heo⟩ : ∃ y, addE es x.r [] = y := ⟨_, rfl⟩
              rw [heo] at ADD2
              have HEO := Lib.hid heo
              clear heo ADD
              by_cases h1 : kd = 2
              · subst h1
                by_cases h0 : eo = 0
                · subst h0
                  have hes : addS es x.r [] = es ++ [⟨x.r, []⟩] := by unfold addS; rw [if_pos HEO.out]
                  have hle : (addS es x.r []).length ≤ 256 := (addS_ok DS.out.le DS.out.oks).1
                  have hsl : (seenL (addS es x.r []) host).length = m + 1 := by rw [hes, seen_add, List.length_append, HM.out]; rfl
                  have HM2 := Lib.hid hsl
                  have hm2 : m + 1 ≤ 256 := by have := seen_le (addS es x.r []) host; omega
                  clear hes hle hsl
                  go_wp2_with (first
                    | (refine wpList_load_midG rfl 30 (.tmp 99) rfl gq (o + k * 13 + 1) rfl cl _ R1.out Tryd.underlying30 rfl (by rw [CLL.out]; kernel_rfl) ?_)
                    | (go_at_call 18; go_loud (refine (ADD2.out _ DS.out).mono ?_; rintro e w5 ⟨rfl, hds⟩; have DS5 := Lib.hid hds; clear hds)))
                  go_roundw
                  case rel => exact ⟨k + 1, _, _, m + 1, by omega, by go_num, DS5.out, by go_num, hm2, HM2⟩
                  case measure => simp [intOf]; omega
                · have h0' : (eo == 0) = false := by simpa using h0
                  have hes : addS es x.r [] = es := by unfold addS; rw [if_neg (by rw [HEO.out]; exact h0)]
                  have hgs : addG es g x.r [] = g := by unfold addG; rw [if_neg (by rw [HEO.out]; exact h0)]
                  rw [hes, hgs] at ADD2
                  clear hes hgs
                  go_wp2_with (first
                    | (refine wpList_load_midG rfl 30 (.tmp 99) rfl gq (o + k * 13 + 1) rfl cl _ R1.out Tryd.underlying30 rfl (by rw [CLL.out]; kernel_rfl) ?_)
                    | (go_at_call 18; go_loud (refine (ADD2.out _ DS.out).mono ?_; rintro e w5 ⟨rfl, hds⟩; have DS5 := Lib.hid hds; clear hds)))
                  go_roundw
                  case rel => exact ⟨k + 1, es, g, m, by omega, by go_num, DS5.out, rfl, hm, HM⟩
                  case measure => simp [intOf]; omega
              · have h1' : (kd == 2) = false := by simpa using h1
                go_wp2
                go_roundw
                case rel => exact ⟨k + 1, es, g, m, by omega, by go_num, DS.out, rfl, hm, HM⟩
                case measure => simp [intOf]; omega
            · obtain rfl : k = n := by omega
              have hnm : nmOk host = true := by
                cases hb : nmOk host
                · have := HE.out
                  unfold seenE at this
                  rw [hb] at this
                  exact absurd this (by decide)
                · rfl
              have hL : seenR es host = seenL es host := by unfold seenR; rw [if_pos hnm]
              have hlg := log_fine (es := es) (host := host) DS.out.le DS.out.oks hnm
              obtain ⟨L, hLL⟩ : ∃ y, seenL es host = y := ⟨_, rfl⟩
              obtain ⟨B, hB⟩ : ∃ y, lgB es g host = y := ⟨_, rfl⟩
              rw [hLL] at hL HM
              have SEE := Lib.hid (fun w' h => Seen_s w p es g host 0 L w' h HH.out HE.out hL)
              have LOG := Lib.hid (fun w' h => Log_s w p es g host 0 B w' h HH.out hlg hB)
              rw [HSH.out] at SEE LOG
              obtain ⟨sB, hsB⟩ : ∃ y, strOf B = y := ⟨_, rfl⟩
              have HSB := Lib.hid hsB
              have hmm := HM.out
              rw [hmm] at SEE
              clear hL hlg hB hLL hnm hsB hmm
              go_wp2_with (first
                | (go_at_call 19; go_loud (refine (SEE.out _ DS.out).mono ?_; rintro e w5 ⟨a5, c5, rfl, -, hds, -⟩; have DS5 := Lib.hid hds; clear hds))
                | (go_at_call 20; go_loud (refine (LOG.out _ DS5.out).mono ?_; rintro e w6 ⟨u6, rfl, hu, hds, hb⟩; have DS6 := Lib.hid hds; have U6 := Lib.hid hu; clear hds hb hu DS5))
                | (go_at_call 20; go_loud (refine (LOG.out _ DS6.out).mono ?_; rintro e w7 ⟨u7, rfl, hu, hds, hb⟩; have DS7 := Lib.hid hds; have hs6 := run_string (U6.out.below hb); have hs7 := run_string hu; rw [HSB.out] at hs6 hs7; clear hds hb hu))
                | (go_at_call 8; go_loud (refine (known_any _).mono ?_; rintro e w9 ⟨rfl, hw⟩; have D9 := Lib.hid hw; clear hw)))
              go_ret
              exact ⟨rfl, gr_tr DS7.out.base D9.out⟩
        · have hE2 : E = 2 := by
            have := HE.out
            unfold seenE at this
            split at this
            · exact absurd this.symm h2
            · exact this.symm
          subst hE2
          go_wp2_with (first
            | (go_at_call 19; go_loud (refine (SEE.out _ DS.out).mono ?_; rintro e w4 ⟨a4, c4, rfl, -, hds, -⟩; have DS4 := Lib.hid hds; clear hds))
            | (go_at_call 8; go_loud (refine (known_any _).mono ?_; rintro e w9 ⟨rfl, hw⟩; have D9 := Lib.hid hw; clear hw)))
          go_ret
          exact ⟨rfl, gr_tr DS4.out.base D9.out⟩
  · go_wp2_with (first
      | (go_at_call 17; go_loud (refine FEW.out.mono ?_; rintro e w1 ⟨z, rfl, hw⟩; have D1 := Lib.hid hw; clear hw; cases z))
      | (go_at_call 8; go_loud (refine (known_any _).mono ?_; rintro e w9 ⟨rfl, hw⟩; have D9 := Lib.hid hw; clear hw)))
    all_goals
      go_ret
      exact ⟨rfl, gr_tr D1.out D9.out⟩
end Go.Proofs.YtjcgdenkmmgmfaaDoor
