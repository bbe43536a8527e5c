/- Merged: DscDel, DscRem, DscOp, DscS2, DscS3, Law40E. -/
import Derived.Test.YtjcgdenkmmgmfaaDoorRows2
import Derived.Test.YtjcgdenkmmgmfaaDoorChg
import Derived.Deep.RegionLaw
import Derived.Lib.SliceRun
import Derived.Deep.DeepCutAuto
import Derived.Test.YtjcgdenkmmgmfaaDoorDscO
import Derived.Test.YtjcgdenkmmgmfaaDoorDscM
import Derived.Test.YtjcgdenkmmgmfaaDoorDscG
import Derived.Test.YtjcgdenkmmgmfaaDoorDscW
import Derived.Test.YtjcgdenkmmgmfaaDoorDscH
import Derived.Test.YtjcgdenkmmgmfaaDoorOpenG
namespace Go.Proofs.YtjcgdenkmmgmfaaDoor
open Go.RowKit
set_option linter.unusedVariables false
set_option linter.unusedSimpArgs false
attribute [local go_sem] Oper.semAt_some
namespace Dsc
/-- Values stored one behind the other. -/
def putA : Array Value → Nat → List Value → Array Value
  | c, _, [] => c
  | c, o, v :: r => putA (c.setIfInBounds o v) (o + 1) r
theorem putA_size : ∀ (vs : List Value) (c : Array Value) (o : Nat), (putA c o vs).size = c.size
  | [], _, _ => rfl
  | v :: r, c, o => by unfold putA; rw [putA_size r]; simp
theorem putA_get : ∀ (vs : List Value) (c : Array Value) (o j : Nat), o + vs.length ≤ c.size → (putA c o vs)[j]? = if o ≤ j ∧ j < o + vs.length then vs[j - o]? else c[j]?
  | [], c, o, j, _ => by unfold putA; rw [if_neg (fun h => by have := h.1; have := h.2; simp at *; omega)]
  | v :: r, c, o, j, h => by
    rw [List.length_cons] at h ⊢
    unfold putA
    rw [putA_get r _ _ _ (by simp; omega)]
    by_cases h1 : o + 1 ≤ j ∧ j < o + 1 + r.length
    · rw [if_pos h1, if_pos (by omega), show j - o = (j - (o + 1)) + 1 by omega, List.getElem?_cons_succ]
    · rw [if_neg h1]
      by_cases h2 : j = o
      · subst h2
        rw [if_pos (by omega), Array.getElem?_setIfInBounds_self, Nat.sub_self, List.getElem?_cons_zero, if_pos (show j < c.size by omega)]
      · rw [if_neg (by omega), Array.getElem?_setIfInBounds_ne (by omega)]
theorem putA_heap {g : Nat} {t : TypeId} : ∀ (vs : List Value) (o : Nat) (w : World) (c : Array Value), w.heap[g]? = some (.cells c t (0, 0)) → (w.setCells g o vs).heap[g]? = some (.cells (putA c o vs) t (0, 0))
  | [], _, _, _, h => h
  | v :: r, o, w, c, h => putA_heap r (o + 1) _ _ (heap_setCell_same w g o c t v h)
theorem putA_chg {g : Nat} : ∀ (vs : List Value) (o : Nat) (w : World), Chg (fun k => k = g) w (w.setCells g o vs)
  | [], _, w => Chg.refl _ w
  | v :: r, o, w => (Chg.setCell (B := fun k => k = g) (p := ⟨g, o, none⟩) w rfl v).trans (putA_chg r (o + 1) _)
end Dsc
open Dsc
/-- 'clear(s)', s a slice of one element that is an aggregate. -/
theorem run_clear_agg {P : Program} (w : World) (t e ty : TypeId) (z : Value) (ht : P.underlying t = some (.slice e)) (hv : ∀ w, (zeroValue e).run P w = .ok z w) (h1 : ∀ v ∈ z.cells.toList, v.oneCell' = true) (b o c : Nat)
    (hc : ∀ j, j < z.cells.size → (w.cell? ⟨b, o + j, none⟩).isSome = true) (hf : ∀ j, j < z.cells.size → w.frozen? ⟨b, o + j, none⟩ = false) :
    (Builtin.clear_ #[t] ty #[.slice (some ⟨b, o, none⟩) 1 c]).run P w = .ok (.tuple #[]) (w.setCells b o z.cells.toList) := by
  have hzc : (Builtin.zeroCells z.cells 1) = z.cells := by
    unfold Builtin.zeroCells
    apply Array.ext
    · simp
    · intro i h1 h2
      simp at h1
      simp [Nat.mod_eq_of_lt h2, getElem!_pos z.cells i h2]
  have hst := run_storeCells_cells (P := P) b o z.cells.toList 0 w (by simpa using hc) (by simpa using hf) h1
  simp only [Nat.add_zero] at hst
  simp [Builtin.clear_, run_underlying ht, hv, hzc, hst]
set_option maxHeartbeats 6400000 in
set_option maxRecDepth 20000 in
theorem Delete_at (base q n c i : Nat) (xs : List Value) (w : World) (hown : w.ownsRow base 80 11 (.slice (some ⟨q, 0, none⟩) n c) n xs) (hi : i < n) (hn : n ≤ 256) (hone : ∀ v ∈ xs, v.oneCell' = true) :
    Calls Tryd.prog 47 #[.slice (some ⟨q, 0, none⟩) n c, .int .i64 i, .int .i64 ((i : Int) + 1)] w fun e w' => e = .returned (.slice (some ⟨q, 0, none⟩) (n - 1) c) ∧ w'.ownsRow base 80 11 (.slice (some ⟨q, 0, none⟩) (n - 1) c) (n - 1) (xs.take (i * 11) ++ xs.drop ((i + 1) * 11)) ∧ Chg (fun k => k = q) w w' := by
  obtain ⟨hlen, hh⟩ := hown
  rcases hh with ⟨h0, _⟩ | ⟨g, cap, cur, hv, hbase, hheap, hnc, hcm, hcs, htake⟩
  · cases h0
  injection hv with hv1 hv2 hv3
  injection hv1 with hv1
  injection hv1 with hv1 hv4
  subst hv1; subst hv3
  have hmax : c ≤ 9223372036854775807 := hcm
  obtain ⟨i0, hi0, hz0, hz1, hz2⟩ := info_parts (show (Tryd.prog.info? 80).map (fun i => (i.zero, i.size, i.bytes)) = some (some (.agg #[.int .u8 0, .int .u8 0, .bool false, .bool false, .int .u16 0, .int .u16 0, .int .u16 0, .string ⟨#[]⟩, .string ⟨#[]⟩, .string ⟨#[]⟩, .slice none 0 0]), 11, 88) by kernel_rfl)
  obtain ⟨news, hnews⟩ : ∃ news, xs.drop ((i + 1) * 11) = news := ⟨_, rfl⟩
  have hnl : news.length = (n - (i + 1)) * 11 := by rw [← hnews, List.length_drop, hlen]; omega
  have hxs : ∀ j, j < n * 11 → xs[j]? = cur[j]? := fun j hj => by
    rw [← htake, List.getElem?_take_of_lt hj, Array.getElem?_toList]
  have hng : ∀ t, t < news.length → news[t]? = cur[(i + 1) * 11 + t]? := fun t ht => by
    rw [← hnews, List.getElem?_drop, hxs _ (by omega)]
  have hcell : ∀ j, w.cell? ⟨q, j, none⟩ = cur[j]? := fun j => cell_of_row _ _ j _ _ _ hheap
  have hfro : ∀ j, w.frozen? ⟨q, j, none⟩ = false := fun j => frozen_of_row _ _ j _ _ hheap
  obtain ⟨A, hA, hsrc⟩ : ∃ A : Addr, (if c = i + 1 then some (⟨q, 0, none⟩ : Addr) else some ⟨q, (i + 1) * 11, none⟩) = some A ∧ Hid (∀ t u, news[t]? = some u → w.drew.cell? (A.add t) = some u) := by
    by_cases h : c = i + 1
    · refine ⟨⟨q, 0, none⟩, by simp [h], Lib.hid (fun t u hu => ?_)⟩
      have h0 : news.length = 0 := by rw [hnl]; omega
      rw [List.length_eq_zero_iff.1 h0] at hu
      simp at hu
    · refine ⟨⟨q, (i + 1) * 11, none⟩, by simp [h], Lib.hid (fun t u hu => ?_)⟩
      have ht := (List.getElem?_eq_some_iff.1 hu).1
      rw [hng t ht] at hu
      rw [Addr.add_lit]
      exact (hcell ((i + 1) * 11 + t)).trans hu
  have s1 : Hid (news.length = (n - (i + 1)) * 11) := Lib.hid hnl
  have s2 : Hid (∀ u ∈ news, u.oneCell' = true) := Lib.hid (fun u hu => hone u (by rw [← hnews] at hu; exact List.mem_of_mem_drop hu))
  have s3 : Hid (∀ t, t < news.length → (w.drew.cell? ⟨q, 0 + i * 11 + t, none⟩).isSome = true ∧ w.drew.frozen? ⟨q, 0 + i * 11 + t, none⟩ = false) := Lib.hid (fun t ht => by
    refine ⟨?_, hfro _⟩
    show (w.cell? _).isSome = true
    rw [hcell, Array.getElem?_eq_getElem (by rw [hcs]; omega)]; rfl)
  obtain ⟨W1, hW1⟩ : ∃ W1, W1 = w.drew.setCells q (0 + i * 11) news := ⟨_, rfl⟩
  have hrow1 : W1.heap[q]? = some (.cells (putA cur (0 + i * 11) news) 80 (0, 0)) := by rw [hW1]; exact putA_heap news _ _ _ hheap
  have hcg1 : Chg (fun k => k = q) w W1 := by rw [hW1]; exact (Chg.of_below (gr_drew w)).trans (putA_chg news _ _)
  have hsz1 : (putA cur (0 + i * 11) news).size = c * 11 := by rw [putA_size, hcs]
  obtain ⟨cur1, hcur1⟩ : ∃ x, putA cur (0 + i * 11) news = x := ⟨_, rfl⟩
  rw [hcur1] at hrow1 hsz1
  have hzv : ∀ w, (zeroValue 80).run Tryd.prog w = .ok (.agg #[.int .u8 0, .int .u8 0, .bool false, .bool false, .int .u16 0, .int .u16 0, .int .u16 0, .string ⟨#[]⟩, .string ⟨#[]⟩, .string ⟨#[]⟩, .slice none 0 0]) w := fun w => by kernel_rfl
  have hcl : ∀ ty, (Builtin.clear_ #[48] ty #[.slice (some ⟨q, (n - 1) * 11, none⟩) 1 (c - (n - 1))]).run Tryd.prog W1 = .ok (.tuple #[]) (W1.setCells q ((n - 1) * 11) ((#[.int .u8 0, .int .u8 0, .bool false, .bool false, .int .u16 0, .int .u16 0, .int .u16 0, .string ⟨#[]⟩, .string ⟨#[]⟩, .string ⟨#[]⟩, .slice none 0 0] : Array Value).toList)) :=
    fun ty => run_clear_agg W1 _ 80 ty (.agg #[.int .u8 0, .int .u8 0, .bool false, .bool false, .int .u16 0, .int .u16 0, .int .u16 0, .string ⟨#[]⟩, .string ⟨#[]⟩, .string ⟨#[]⟩, .slice none 0 0]) Tryd.underlying48 hzv (by simp [Value.cells, Value.oneCell']) q ((n - 1) * 11) _
      (fun j hj => by
        have hj' : j < 11 := hj
        rw [cell_of_row _ _ _ _ _ _ hrow1, Array.getElem?_eq_getElem (by rw [hsz1]; omega)]; rfl)
      (fun j hj => frozen_of_row _ _ _ _ _ hrow1)
  have hz11 : ((#[.int .u8 0, .int .u8 0, .bool false, .bool false, .int .u16 0, .int .u16 0, .int .u16 0, .string ⟨#[]⟩, .string ⟨#[]⟩, .string ⟨#[]⟩, .slice none 0 0] : Array Value).toList).length = 11 := rfl
  obtain ⟨zl, hzl⟩ : ∃ zl, ((#[.int .u8 0, .int .u8 0, .bool false, .bool false, .int .u16 0, .int .u16 0, .int .u16 0, .string ⟨#[]⟩, .string ⟨#[]⟩, .string ⟨#[]⟩, .slice none 0 0] : Array Value).toList) = zl := ⟨_, rfl⟩
  rw [hzl] at hcl hz11
  clear hzl
  obtain ⟨W2, hW2⟩ : ∃ x, x = W1.setCells q ((n - 1) * 11) zl := ⟨_, rfl⟩
  rw [← hW2] at hcl
  have hcg2 : Chg (fun k => k = q) w W2 := by rw [hW2]; exact hcg1.trans (putA_chg _ _ _)
  have hrow2 : W2.heap[q]? = some (.cells (putA cur1 ((n - 1) * 11) zl) 80 (0, 0)) := by rw [hW2]; exact putA_heap _ _ _ _ hrow1
  have hsz2 : (putA cur1 ((n - 1) * 11) zl).size = c * 11 := by rw [putA_size, hsz1]
  have htk : (putA cur1 ((n - 1) * 11) zl).toList.take ((n - 1) * 11) = xs.take (i * 11) ++ news := by
    apply List.ext_getElem?
    intro j
    by_cases hj : j < (n - 1) * 11
    · rw [List.getElem?_take_of_lt hj, Array.getElem?_toList, putA_get _ _ _ _ (by rw [hsz1]; rw [hz11]; omega), if_neg (by rw [hz11]; omega), ← hcur1, putA_get _ _ _ _ (by rw [hcs, hnl]; omega)]
      by_cases h2 : 0 + i * 11 ≤ j ∧ j < 0 + i * 11 + news.length
      · rw [if_pos h2, List.getElem?_append_right (by rw [List.length_take, hlen]; omega), List.length_take, hlen]
        congr 1; omega
      · rw [if_neg h2, List.getElem?_append_left (by rw [List.length_take, hlen]; omega), List.getElem?_take_of_lt (by omega), hxs j (by omega)]
    · rw [List.getElem?_eq_none (by rw [List.length_take]; omega), List.getElem?_eq_none (by rw [List.length_append, List.length_take, hlen, hnl]; omega)]
  have OWN := Lib.hid (show W2.ownsRow base 80 11 (.slice (some ⟨q, 0, none⟩) (n - 1) c) (n - 1) (xs.take (i * 11) ++ news) from
    ⟨by rw [List.length_append, List.length_take, hlen, hnl]; omega, .inr ⟨q, c, _, rfl, hbase, hrow2, by omega, hcm, hsz2, htk⟩⟩)
  have CG := Lib.hid hcg2
  have HCL := Lib.hid hcl
  have hW : Hid (W1 = w.drew.setCells q (0 + i * 11) news) := Lib.hid hW1
  have hic : i ≤ c := by omega
  have hjc : i + 1 ≤ c := by omega
  obtain ⟨m, hm⟩ : ∃ m, n - 1 = m := ⟨_, rfl⟩
  have HM := Lib.hid (show i + (n - (i + 1)) = m by omega)
  rw [hm] at OWN HCL
  have HZ := Lib.hid hz0; have HI := Lib.hid hi0; have HZ1 := Lib.hid hz1
  have he : Tryd.prog.elem 48 = 80 := by kernel_rfl
  have ht' : Tryd.prog.underlying 48 = some (.slice (Tryd.prog.elem 48)) := by rw [he]; exact Tryd.underlying48
  have hz : ∀ w', (sizeOf (Tryd.prog.elem 48)).run Tryd.prog w' = .ok 11 w' := fun w' => by
    rw [he]
    simp [sizeOf, typeInfo, hi0, hz1]
  obtain ⟨u1, hu1⟩ : ∃ u1, ∀ w', (Instr.slice 48 (.slice (some ⟨q, 0, none⟩) n c) (some (.int .i64 (i : Int))) (some (.int .i64 ((i : Int) + 1))) (some (.int .i64 (n : Int)))).run Tryd.prog w' = .ok u1 w' := by
    refine ⟨.slice (if n = i then some ⟨q, 0, none⟩ else (some (⟨q, 0, none⟩ : Addr)).map (·.add (i * 11))) (i + 1 - i) (n - i), fun w' => ?_⟩
    have h := run_slice_lhm w' 48 (some ⟨q, 0, none⟩) n c ht' .i64 .i64 .i64 (i : Int) ((i : Int) + 1) n (by omega) (by omega) (by omega) (by omega)
    rw [hz] at h
    refine h.trans ?_
    simp [Result.andThen, sliced]
  have r2 : ∀ w', (Instr.slice 48 (.slice (some ⟨q, 0, none⟩) n c) none (some (.int .i64 (i : Int))) none).run Tryd.prog w' = .ok (.slice (some ⟨q, 0, none⟩) i c) w' := fun w' => by
    rw [run_slice_h w' 48 (some ⟨q, 0, none⟩) n c ht' .i64 i (by omega) (by omega), hz]
    simp [Result.andThen, sliced, Addr.add]
  have r3 : ∀ w', (Instr.slice 48 (.slice (some ⟨q, 0, none⟩) n c) (some (.int .i64 ((i : Int) + 1))) none none).run Tryd.prog w' = .ok (.slice (some A) (n - (i + 1)) (c - (i + 1))) w' := fun w' => by
    have h := run_slice_l w' 48 (some ⟨q, 0, none⟩) n c ht' .i64 (i + 1) (by omega) (by omega)
    rw [hz] at h
    refine h.trans ?_
    rw [← hA]
    simp [Result.andThen, sliced, Addr.add]
  have r4 : ∀ w', (Instr.slice 48 (.slice (some ⟨q, 0, none⟩) (n - 1) c) (some (.int .i64 ((n - 1 : Nat) : Int))) (some (.int .i64 (n : Int))) none).run Tryd.prog w' = .ok (.slice (some ⟨q, (n - 1) * 11, none⟩) 1 (c - (n - 1))) w' := fun w' => by
    rw [run_slice_lh w' 48 (some ⟨q, 0, none⟩) (n - 1) c ht' .i64 .i64 ((n - 1 : Nat) : Int) (n : Int) (by omega) (by omega) (by omega), hz]
    simp [Result.andThen, sliced, Addr.add, show n - (n - 1) = 1 by omega, show ¬ c = n - 1 by omega]
    intro h; exact h.symm
  have hne : ((i : Int) == (i : Int) + 1) = false := by simp; omega
  have hp0 : (0 : Int) ≤ (i : Int) + 1 := by omega
  have hp1 : (i : Int) + 1 ≤ (n : Int) := by omega
  have hp2 : ((i : Int) + 1).toNat = i + 1 := by omega
  have hp3 : i + 1 ≤ n := by omega
  clear hz ht' he r3
  rw [hm] at r4 ⊢
  rw [hnews]
  clear hW1 hrow1 hcg1 hsz1 hcur1 hzv hcl hW2 hcg2 hrow2 hsz2 htk hcell hfro hxs hng hnl hnews htake hcs hheap hlen hone hbase hz0 hz2 hv4 hv2 hm hcm
  go_enter Tryd.func47, Tryd.ntmps47
  go_upto_region 5 with fail
  go_region_law (refine step_append_room rfl (.tmp 22) (.tmp 25) 48 rfl 80 i0 11 Tryd.underlying48 HI.out HZ1.out q 0 i c (by simp [Act.eval, Act.put]) A (n - (i + 1)) (c - (i + 1)) news (by simp [Act.eval, Act.put]) s1.out hsrc.out s2.out (by omega) s3.out ?_; rw [← hW.out, HM.out])
  all_goals
    have hcl := HCL.out
    go_wp2
    go_ret
    exact ⟨rfl, OWN.out, CG.out⟩
end Go.Proofs.YtjcgdenkmmgmfaaDoor
namespace Go.Proofs.YtjcgdenkmmgmfaaDoor
open Go.RowKit Dsc
set_option linter.unusedVariables false
set_option linter.unusedSimpArgs false
attribute [local go_sem] Oper.semAt_some
theorem flatM_take {α : Type} {f : α → List Value} {k : Nat} (hf : ∀ x, (f x).length = k) : ∀ (zs : List α) (i : Nat), (zs.flatMap f).take (i * k) = (zs.take i).flatMap f
  | [], i => by simp
  | z :: zs, 0 => by simp
  | z :: zs, i + 1 => by
    rw [List.flatMap_cons, List.take_succ_cons, List.flatMap_cons, show (i + 1) * k = (f z).length + i * k by rw [hf, Nat.succ_mul]; omega, List.take_length_add_append, flatM_take hf zs i]
theorem flatM_drop {α : Type} {f : α → List Value} {k : Nat} (hf : ∀ x, (f x).length = k) : ∀ (zs : List α) (i : Nat), (zs.flatMap f).drop (i * k) = (zs.drop i).flatMap f
  | [], i => by simp
  | z :: zs, 0 => by simp
  | z :: zs, i + 1 => by
    rw [List.flatMap_cons, List.drop_succ_cons, show (i + 1) * k = (f z).length + i * k by rw [hf, Nat.succ_mul]; omega, List.drop_length_add_append, flatM_drop hf zs i]
theorem zip_erase {α β : Type} : ∀ (l : List α) (m : List β) (i : Nat), (l.eraseIdx i).zip (m.eraseIdx i) = (l.zip m).eraseIdx i
  | [], m, i => by simp
  | a :: l, [], i => by cases i <;> simp
  | a :: l, b :: m, 0 => by simp
  | a :: l, b :: m, i + 1 => by simp [zip_erase l m i]
theorem map_erase {α β : Type} (f : α → β) : ∀ (l : List α) (i : Nat), (l.map f).eraseIdx i = (l.eraseIdx i).map f
  | [], i => by simp
  | a :: l, 0 => by simp
  | a :: l, i + 1 => by simp [map_erase f l i]
theorem flatM_erase {α : Type} {f : α → List Value} {k : Nat} (hf : ∀ x, (f x).length = k) (zs : List α) (i : Nat) : (zs.flatMap f).take (i * k) ++ (zs.flatMap f).drop ((i + 1) * k) = (zs.eraseIdx i).flatMap f := by
  rw [flatM_take hf, flatM_drop hf, ← List.flatMap_append, List.eraseIdx_eq_take_drop_succ]
theorem DirAt.ones {w : World} {p : Nat} {es : List Ent} {g : BitVec 64} {lv : Value} {hvs : List Value} (h : DirAt w p es g lv hvs) : ∀ v ∈ ((es.map (·.r)).zip hvs).flatMap entC, v.oneCell' = true := by
  intro v hv
  obtain ⟨x, hx, hv⟩ := List.mem_flatMap.1 hv
  obtain ⟨j, hj⟩ := List.mem_iff_getElem?.1 hx
  obtain ⟨h1, h2⟩ := List.getElem?_zip_eq_some.1 hj
  rw [List.getElem?_map] at h1
  obtain ⟨e, he, h3⟩ := Option.map_eq_some_iff.1 h1
  obtain ⟨-, -, h4, -⟩ := h.el j e x.2 he h2
  unfold entC at hv
  rcases List.mem_append.1 hv with hv | hv
  · revert hv; simp [Dsc.Rec.cells, Value.oneCell']; rintro (rfl | rfl | rfl | rfl | rfl | rfl | rfl | rfl | rfl | rfl) <;> rfl
  · rw [List.mem_singleton.1 hv]; exact h4
/-- An entry is taken out. -/
theorem DirAt.removed {w : World} {p q n c : Nat} {es : List Ent} {g : BitVec 64} {hvs : List Value} (h : DirAt w p es g (.slice (some ⟨q, 0, none⟩) n c) hvs) {w3 w' : World} (i : Nat) (hn : es.length = n) (hi : i < n)
    (hown : w3.ownsRow (p + 1) 80 11 (.slice (some ⟨q, 0, none⟩) (n - 1) c) (n - 1) ((((es.map (·.r)).zip hvs).flatMap entC).take (i * 11) ++ (((es.map (·.r)).zip hvs).flatMap entC).drop ((i + 1) * 11))) (hg : Chg (fun k => k = q) w w3)
    (hw' : w' = (w3.setCell ⟨p, 0, none⟩ (.slice (some ⟨q, 0, none⟩) (n - 1) c)).setCell ⟨p, 1, none⟩ (.int .u64 (uv (g + 1#64)))) : DirAt w' p (es.eraseIdx i) (g + 1#64) (.slice (some ⟨q, 0, none⟩) (n - 1) c) (hvs.eraseIdx i) ∧ Chg (DirB p (.slice (some ⟨q, 0, none⟩) n c)) w w' := by
  have hpq : p ≠ q := by have := (h.own.lt q rfl).1; omega
  have hb3 : w3.heap[p]? = some (.cells #[.slice (some ⟨q, 0, none⟩) n c, .int .u64 (uv g)] 50 (0, 0)) := hg.blk h.blk hpq
  have hcc : Chg (fun b => b = p) w3 w' := by
    rw [hw']; exact (Chg.setCell (B := fun b => b = p) (p := ⟨p, 0, none⟩) _ rfl _).trans (Chg.setCell (B := fun b => b = p) (p := ⟨p, 1, none⟩) _ rfl _)
  have hc : Chg (DirB p (.slice (some ⟨q, 0, none⟩) n c)) w w' := (hg.mono (fun k hk => .inr (by rw [hk]; rfl))).trans (hcc.mono (fun k hk => .inl hk))
  have keepH : ∀ (bs : Nat) (hv2 : Value) (m : Nat) (xs : List Value), w.ownsRow bs 9 1 hv2 m xs → w'.ownsRow bs 9 1 hv2 m xs := fun bs hv2 m xs ho =>
    own_chg ho hc (fun k hk hB => by
      rcases hB with e | e
      · subst e; exact own_apartB ho h.blk (by decide) hk
      · exact own_apartT h.own ho (by decide) k e hk)
  refine ⟨⟨?_, ?_, ?_, ?_⟩, hc⟩
  · rw [hw']; exact heap_setCell_same _ _ _ _ _ _ (heap_setCell_same _ _ _ _ _ _ hb3)
  · rw [flatM_erase (k := 11) entC_len, ← zip_erase] at hown
    have e1 : (es.map (·.r)).eraseIdx i = (es.eraseIdx i).map (·.r) := map_erase (fun e : Ent => e.r) es i
    rw [e1] at hown
    have e2 : (es.eraseIdx i).length = n - 1 := by rw [List.length_eraseIdx, if_pos (by omega), hn]
    rw [e2]
    exact own_chg hown hcc (fun k hk e => by have := (hown.lt k hk).1; omega)
  · rw [List.length_eraseIdx, List.length_eraseIdx, h.len]
  · intro j e hv h1 h2
    rw [List.getElem?_eraseIdx] at h1 h2
    by_cases hj : j < i
    · rw [if_pos hj] at h1 h2
      obtain ⟨x, y, z⟩ := h.el j e hv h1 h2
      exact ⟨x, keepH _ _ _ _ y, z⟩
    · rw [if_neg hj] at h1 h2
      obtain ⟨x, y, z⟩ := h.el (j + 1) e hv h1 h2
      exact ⟨x, keepH _ _ _ _ y, z⟩
theorem Remove_nil (cr : Array Value) (w : World) :
    Calls Tryd.prog 21 #[.pointer none, .agg cr] w fun e w' => e = .returned (.int .i64 1) ∧ Below w.heap.size w w' := by
  go_enter Tryd.func21, Tryd.ntmps21
  go_wp2
  go_ret
  exact ⟨rfl, gr_alloc _ _⟩
set_option maxRecDepth 20000 in
set_option maxHeartbeats 3200000 in
theorem Remove_no (p : Nat) (es : List Ent) (g : BitVec 64) (lv : Value) (hvs : List Value) (r : Rec) (w : World) (hd : DirAt w p es g lv hvs) (hlen : es.length ≤ 256) (hj : ix es r = -1) :
    Calls Tryd.prog 21 #[.pointer (some ⟨p, 0, none⟩), .agg r.cells.toArray] w fun e w' => e = .returned (.int .i64 9) ∧ Below w.heap.size w w' := by
  obtain ⟨W, hW⟩ : ∃ W, W = w.alloc (.cells r.cells.toArray 30) := ⟨_, rfl⟩
  have D := Lib.hid (show Below w.heap.size w W by rw [hW]; exact gr_alloc w _)
  have X := Lib.hid (show W.heap[w.heap.size]? = some (.cells r.cells.toArray 30 (0, 0)) by rw [hW]; exact heap_alloc_new w _)
  have DD := Lib.hid (hd.below D.out)
  have HW := Lib.hid hW
  have AT := Lib.hid (fun w h => at_at p es g lv hvs r (-1) w h hj hlen)
  have CRS := Lib.hid (show r.cells.toArray.size = 10 from rfl)
  obtain ⟨cr, hcr⟩ : ∃ c, r.cells.toArray = c := ⟨_, rfl⟩
  rw [hcr] at HW X AT CRS ⊢
  clear hW hd hlen hj hcr
  go_enter Tryd.func21, Tryd.ntmps21
  go_upto_region 1 with fail
  rw [← HW.out]
  go_wp2_with (first
    | (refine wpList_load_row rfl 30 (.tmp 3) rfl w.heap.size rfl 30 cr (0, 0) _ X.out Tryd.underlying30 rfl (by rw [CRS.out]; kernel_rfl) ?_)
    | (go_at_call 41; go_loud (refine (AT.out _ DD.out).mono ?_; rintro e w1 ⟨rfl, hw⟩; have D1 := Lib.hid (gr_tr D.out hw); clear hw)))
  go_ret
  exact ⟨rfl, D1.out⟩
set_option maxRecDepth 20000 in
set_option maxHeartbeats 3200000 in
theorem Remove_ok (p : Nat) (es : List Ent) (g : BitVec 64) (lv : Value) (hvs : List Value) (r : Rec) (i : Nat) (w : World) (hd : DirAt w p es g lv hvs) (hlen : es.length ≤ 256) (hj : ix es r = i) (hi : i < es.length) :
    Calls Tryd.prog 21 #[.pointer (some ⟨p, 0, none⟩), .agg r.cells.toArray] w fun e w' => e = .returned (.int .i64 0) ∧ ∃ lv', DirAt w' p (es.eraseIdx i) (g + 1#64) lv' (hvs.eraseIdx i) ∧ lv'.ownBlock = lv.ownBlock ∧ Chg (DirB p lv) w w' := by
  obtain ⟨q, c, rfl⟩ : ∃ q c, lv = .slice (some ⟨q, 0, none⟩) es.length c := by
    obtain ⟨-, h⟩ := hd.own
    rcases h with ⟨-, h⟩ | ⟨q, c, -, h, -⟩
    · omega
    · exact ⟨q, c, h⟩
  obtain ⟨W, hW⟩ : ∃ W, W = w.alloc (.cells r.cells.toArray 30) := ⟨_, rfl⟩
  have D := Lib.hid (show Below w.heap.size w W by rw [hW]; exact gr_alloc w _)
  have X := Lib.hid (show W.heap[w.heap.size]? = some (.cells r.cells.toArray 30 (0, 0)) by rw [hW]; exact heap_alloc_new w _)
  have DD := Lib.hid (hd.below D.out)
  have HW := Lib.hid hW
  obtain ⟨n, hn⟩ : ∃ n, es.length = n := ⟨_, rfl⟩
  have HN := Lib.hid hn
  have hn256 := hlen
  have AT := Lib.hid (fun w h => at_at p es g (.slice (some ⟨q, 0, none⟩) es.length c) hvs r i w h hj hlen)
  have ONE := Lib.hid hd.ones
  have CRS := Lib.hid (show r.cells.toArray.size = 10 from rfl)
  obtain ⟨cr, hcr⟩ : ∃ c, r.cells.toArray = c := ⟨_, rfl⟩
  rw [hcr] at HW X AT CRS ⊢
  rw [hn] at DD AT hi hn256 ⊢
  have DEL := Lib.hid (fun w (h : DirAt w p es g (.slice (some ⟨q, 0, none⟩) n c) hvs) => Delete_at (p + 1) q n c i (((es.map (·.r)).zip hvs).flatMap entC) w (by have := h.own; rw [HN.out] at this; exact this) hi hn256 ONE.out)
  clear hW hd hlen hj hcr hn
  go_enter Tryd.func21, Tryd.ntmps21
  go_upto_region 1 with fail
  rw [← HW.out]
  go_upto_region 6 with (first
    | (refine wpList_load_row rfl 30 (.tmp 3) rfl w.heap.size rfl 30 cr (0, 0) _ X.out Tryd.underlying30 rfl (by rw [CRS.out]; kernel_rfl) ?_)
    | (go_at_call 41; go_loud (refine (AT.out _ DD.out).mono ?_; rintro e w1 ⟨rfl, hw⟩; have D1 := Lib.hid (gr_tr D.out hw); have DD1 := Lib.hid (DD.out.below hw); clear hw)))
  have p0 : w1.cell? ⟨p, 0, none⟩ = some (.slice (some ⟨q, 0, none⟩) n c) := (cell_of_row _ _ 0 _ _ _ DD1.out.blk).trans rfl
  go_wp2_with (go_at_call 47; go_loud (refine (DEL.out _ DD1.out).mono ?_; rintro e w2 ⟨rfl, ho, hc⟩; have O2 := Lib.hid ho; have C2 := Lib.hid hc; have hb2 := hc.blk DD1.out.blk (show p ≠ q by have := (DD1.out.own.lt q rfl).1; omega); have p2 : w2.cell? ⟨p, 0, none⟩ = some (.slice (some ⟨q, 0, none⟩) n c) := (cell_of_row _ _ 0 _ _ _ hb2).trans rfl; have p3 : w2.cell? ⟨p, 1, none⟩ = some (.int .u64 (uv g)) := (cell_of_row _ _ 1 _ _ _ hb2).trans rfl; have z2 := frozen_of_row _ _ 0 _ _ hb2; have z3 := frozen_of_row _ _ 1 _ _ hb2; clear ho hc hb2 p0))
  go_ret
  have hx := DirAt.removed (w' := (w2.setCell ⟨p, 0, none⟩ (.slice (some ⟨q, 0, none⟩) (n - 1) c)).setCell ⟨p, 1, none⟩ (.int .u64 (uv (g + 1#64)))) DD1.out i HN.out hi O2.out C2.out rfl
  exact ⟨rfl, _, hx.1, rfl, (Chg.of_below (B := DirB p (.slice (some ⟨q, 0, none⟩) n c)) D1.out).trans hx.2⟩
namespace Dsc
/-- What Log returns. -/
def lgE (es : List Ent) (host : List (BitVec 8)) : Int := if nmOk host then logE (seenL es host) else 2
def lgB (es : List Ent) (g : BitVec 64) (host : List (BitVec 8)) : List (BitVec 8) := if nmOk host then logR g (seenL es host) else []
theorem seen_mem {es : List Ent} {host : List (BitVec 8)} {r : Rec} (h : r ∈ seenL es host) : ∃ e ∈ es, e.r = r := by
  unfold seenL at h
  obtain ⟨e, he, rfl⟩ := List.mem_map.1 h
  exact ⟨e, (List.mem_filter.1 he).1, rfl⟩
end Dsc
theorem DirAt.fits {w : World} {p : Nat} {es : List Ent} {g : BitVec 64} {lv : Value} {hvs : List Value} (h : DirAt w p es g lv hvs) : ∀ e ∈ es, e.r.Fit := by
  intro e he
  obtain ⟨j, hj⟩ := List.mem_iff_getElem?.1 he
  obtain ⟨hv, h1, -⟩ := h.get j e hj
  exact (h.el j e hv hj h1).1
set_option maxRecDepth 20000 in
set_option maxHeartbeats 3200000 in
theorem Log_at (p : Nat) (es : List Ent) (g : BitVec 64) (lv : Value) (hvs : List Value) (host : List (BitVec 8)) (E : Int) (B : List (BitVec 8)) (w : World) (hd : DirAt w p es g lv hvs) (hlen : es.length ≤ 256) (hl : host.length ≤ 9223372036854775807) (hE : lgE es host = E) (hB : lgB es g host = B) :
    Calls Tryd.prog 20 #[.pointer (some ⟨p, 0, none⟩), .string (strOf host)] w fun e w' => ∃ u, e = .returned (.tuple #[u, .int .i64 E]) ∧ BytesV w' u B ∧ Below w.heap.size w w' := by
  obtain ⟨b, hb⟩ : ∃ b, nmOk host = b := ⟨_, rfl⟩
  obtain ⟨L, hL⟩ : ∃ L, seenR es host = L := ⟨_, rfl⟩
  obtain ⟨F, hF⟩ : ∃ F, seenE host = F := ⟨_, rfl⟩
  have SEE := Lib.hid (fun w h => Seen_at p es g lv hvs host F L w h hlen hl hF hL)
  obtain ⟨st, hst⟩ : ∃ st, strOf host = st := ⟨_, rfl⟩
  rw [hst] at SEE ⊢
  have DD := Lib.hid hd
  cases b
  · have e1 : F = 2 := by rw [← hF]; unfold seenE; rw [hb]; rfl
    have e2 : E = 2 := by rw [← hE]; unfold lgE; rw [hb]; rfl
    have e3 : B = [] := by rw [← hB]; unfold lgB; rw [hb]; rfl
    subst e1; subst e2; subst e3
    clear hd hlen hl hE hB hb hL hF hst
    go_enter Tryd.func20, Tryd.ntmps20
    go_wp2_with (go_at_call 19; go_loud (refine (SEE.out _ DD.out).mono ?_; rintro e w1 ⟨u, rfl, ho, hw⟩; have D1 := Lib.hid hw; clear ho hw))
    go_ret2
    exact ⟨_, rfl, BytesV.of_own (World.ownsRow_nil _ 0 5 _), D1.out⟩
  · have e1 : F = 0 := by rw [← hF]; unfold seenE; rw [hb]; rfl
    have eL : L = seenL es host := by rw [← hL]; unfold seenR; rw [hb]; rfl
    have e2 : logE L = E := by rw [← hE, eL]; unfold lgE; rw [hb]; rfl
    have e3 : logR g L = B := by rw [← hB, eL]; unfold lgB; rw [hb]; rfl
    subst e1
    have ENC := Lib.hid (fun v w h => Encode_at g v L E B w h (fun r hr => by rw [eL] at hr; obtain ⟨e, he, rfl⟩ := seen_mem hr; exact hd.fits e he) e2 e3)
    clear hd hlen hl hE hB hb hL hF hst eL e2 e3
    go_enter Tryd.func20, Tryd.ntmps20
    go_upto_region 4 with (go_at_call 19; go_loud (refine (SEE.out _ DD.out).mono ?_; rintro e w1 ⟨u, rfl, ho, hw⟩; have S1 := Lib.hid (SliceV.of_own (f := Dsc.Rec.cells) (k := 10) (by decide) (fun _ => rfl) (xs := L) ho); obtain ⟨a1, c1, rfl⟩ := own_shape ho; have D1 := Lib.hid hw; have DD1 := Lib.hid (DD.out.below hw); clear ho hw))
    have p1 : w1.cell? ⟨p, 1, none⟩ = some (.int .u64 (uv g)) := (cell_of_row _ _ 1 _ _ _ DD1.out.blk).trans rfl
    go_wp2_with (go_at_call 12; go_loud (refine (ENC.out _ _ S1.out).mono ?_; rintro e w2 ⟨u2, rfl, ho, hw⟩; have U2 := Lib.hid (BytesV.of_own ho); have D2 := Lib.hid (gr_tr D1.out hw); clear ho hw))
    go_ret2
    exact ⟨_, rfl, U2.out, D2.out⟩
end Go.Proofs.YtjcgdenkmmgmfaaDoor
namespace Go.Proofs.YtjcgdenkmmgmfaaDoor
open Go.RowKit Go.Shelf Dsc
set_option linter.unusedVariables false
set_option linter.unusedSimpArgs false
attribute [local go_sem] Oper.semAt_some
namespace Dsc
def Rec.R (w : World) (x : Rec) : Prop := True ∧ True ∧ True ∧ True ∧ True ∧ True ∧ True ∧ x.sv.length ≤ 9223372036854775807 ∧ x.sb.length ≤ 9223372036854775807 ∧ x.ad.length ≤ 9223372036854775807
theorem Rec.cells_len : ∀ y, (Rec.cells y).length = 10 := fun _ => rfl
set_option maxRecDepth 100000 in
theorem opens_Rec (w : World) : Opens Tryd.prog w 30 Rec Rec.cells (Rec.R w) := by
  intro H enc sp held fuel cs x h
  obtain ⟨hl, hfs⟩ := trod_fields Tryd.underlying30 h
  rw [show Tryd.prog.cellsOf 30 = 10 by kernel_rfl] at hl
  obtain ⟨y0, a0, r0⟩ := opens_field hfs 0 _ rfl 0 1 rfl (by kernel_rfl) (opens_u8 Tryd.underlying5)
  obtain ⟨y1, a1, r1⟩ := opens_field hfs 1 _ rfl 1 1 rfl (by kernel_rfl) (opens_u8 Tryd.underlying5)
  obtain ⟨y2, a2, r2⟩ := opens_field hfs 2 _ rfl 2 1 rfl (by kernel_rfl) (opens_bool Tryd.underlying4)
  obtain ⟨y3, a3, r3⟩ := opens_field hfs 3 _ rfl 3 1 rfl (by kernel_rfl) (opens_bool Tryd.underlying4)
  obtain ⟨y4, a4, r4⟩ := opens_field hfs 4 _ rfl 4 1 rfl (by kernel_rfl) (opens_u16 Tryd.underlying28)
  obtain ⟨y5, a5, r5⟩ := opens_field hfs 5 _ rfl 5 1 rfl (by kernel_rfl) (opens_u16 Tryd.underlying28)
  obtain ⟨y6, a6, r6⟩ := opens_field hfs 6 _ rfl 6 1 rfl (by kernel_rfl) (opens_u16 Tryd.underlying28)
  obtain ⟨y7, a7, r7⟩ := opens_field hfs 7 _ rfl 7 1 rfl (by kernel_rfl) (opens_str Tryd.underlying9)
  obtain ⟨y8, a8, r8⟩ := opens_field hfs 8 _ rfl 8 1 rfl (by kernel_rfl) (opens_str Tryd.underlying9)
  obtain ⟨y9, a9, r9⟩ := opens_field hfs 9 _ rfl 9 1 rfl (by kernel_rfl) (opens_str Tryd.underlying9)
  have e := (glue a0 (by decide : 0 + 1 = 1) (glue a1 (by decide : 1 + 1 = 2) (glue a2 (by decide : 2 + 1 = 3) (glue a3 (by decide : 3 + 1 = 4) (glue a4 (by decide : 4 + 1 = 5) (glue a5 (by decide : 5 + 1 = 6) (glue a6 (by decide : 6 + 1 = 7) (glue a7 (by decide : 7 + 1 = 8) (glue a8 (by decide : 8 + 1 = 9) (glue a9 (by decide : 9 + 1 = 10) (glue_end hl)))))))))))
  rw [List.drop_zero] at e
  exact ⟨⟨y0, y1, y2, y3, y4, y5, y6, y7, y8, y9⟩, e, ⟨r0, r1, r2, r3, r4, r5, r6, r7, r8, r9⟩⟩
structure DLog where
  g : BitVec 64
  rs : Value
def DLog.cells (x : DLog) : List Value := [.int .u64 (uv x.g), x.rs]
def DLog.R (w : World) (x : DLog) : Prop := True ∧ (∃ xs, SliceV w Rec.cells x.rs xs ∧ ∀ y ∈ xs, (Rec.R w) y)
theorem DLog.cells_len : ∀ y, (DLog.cells y).length = 2 := fun _ => rfl
set_option maxRecDepth 100000 in
theorem opens_DLog (w : World) : Opens Tryd.prog w 25 DLog DLog.cells (DLog.R w) := by
  intro H enc sp held fuel cs x h
  obtain ⟨hl, hfs⟩ := trod_fields Tryd.underlying25 h
  rw [show Tryd.prog.cellsOf 25 = 2 by kernel_rfl] at hl
  obtain ⟨y0, a0, r0⟩ := opens_field hfs 0 _ rfl 0 1 rfl (by kernel_rfl) (opens_u64 Tryd.underlying22)
  obtain ⟨y1, a1, r1⟩ := opens_field hfs 1 _ rfl 1 1 rfl (by kernel_rfl) ((opens_slice (k := 10) Tryd.underlying23 (by kernel_rfl) (by decide) Rec.cells_len ((opens_Rec w))))
  have e := (glue a0 (by decide : 0 + 1 = 1) (glue a1 (by decide : 1 + 1 = 2) (glue_end hl)))
  rw [List.drop_zero] at e
  exact ⟨⟨y0, y1⟩, e, ⟨r0, r1⟩⟩
theorem Rec.R.fit {w : World} {r : Rec} (h : Rec.R w r) : r.Fit := ⟨h.2.2.2.2.2.2.2.1, h.2.2.2.2.2.2.2.2.1, h.2.2.2.2.2.2.2.2.2⟩
end Dsc
end Go.Proofs.YtjcgdenkmmgmfaaDoor
namespace Go.Proofs.YtjcgdenkmmgmfaaDoor
open Go.RowKit Dsc
set_option linter.unusedVariables false
set_option linter.unusedSimpArgs false
attribute [local go_sem] Oper.semAt_some
namespace Dsc
def addS (es : List Ent) (r : Rec) (hs : List (List (BitVec 8))) : List Ent := if addE es r hs = 0 then es ++ [⟨r, hs⟩] else es
def addG (es : List Ent) (g : BitVec 64) (r : Rec) (hs : List (List (BitVec 8))) : BitVec 64 := if addE es r hs = 0 then g + 1#64 else g
def remE (es : List Ent) (r : Rec) : Int := if ix es r = -1 then 9 else 0
def remS (es : List Ent) (r : Rec) : List Ent := if ix es r = -1 then es else es.eraseIdx (ix es r).toNat
def remG (es : List Ent) (g : BitVec 64) (r : Rec) : BitVec 64 := if ix es r = -1 then g else g + 1#64
theorem ix_cases (es : List Ent) (r : Rec) : ix es r = -1 ∨ ∃ i : Nat, ix es r = i ∧ i < es.length := by
  unfold ix
  split
  · rename_i h; exact .inr ⟨_, rfl, h⟩
  · exact .inl rfl
end Dsc
theorem Add_any (p : Nat) (es : List Ent) (g : BitVec 64) (lv : Value) (hvs : List Value) (r : Rec) (v : Value) (hs : List (List (BitVec 8))) (w : World) (hd : DirAt w p es g lv hvs) (hes : es.length ≤ 256) (hfit : r.Fit) (hv : SliceV w strC v hs) (hl : ∀ s ∈ hs, s.length ≤ 9223372036854775807) :
    Calls Tryd.prog 18 #[.pointer (some ⟨p, 0, none⟩), .agg r.cells.toArray, v] w fun e w' => e = .returned (.int .i64 (addE es r hs)) ∧ ∃ lv' hvs', DirAt w' p (addS es r hs) (addG es g r hs) lv' hvs' ∧ (lv'.ownBlock = lv.ownBlock ∨ ∃ b, lv'.ownBlock = some b ∧ w.heap.size ≤ b) ∧ Chg (DirB p lv) w w' := by
  by_cases h : addE es r hs = 0
  · refine (Add_ok p es g lv hvs r v hs w hd hes hfit hv hl h).mono ?_
    rintro e w' ⟨rfl, lv', hv', h1, h2, h3, h4⟩
    refine ⟨by rw [h], lv', hvs ++ [hv'], ?_, h2, h4⟩
    unfold addS addG
    rw [if_pos h, if_pos h]
    exact h1
  · refine (Add_no p es g lv hvs r v hs w hd hes hfit hv hl _ rfl h).mono ?_
    rintro e w' ⟨rfl, hb⟩
    refine ⟨rfl, lv, hvs, ?_, .inl rfl, Chg.of_below hb⟩
    unfold addS addG
    rw [if_neg h, if_neg h]
    exact hd.below hb
theorem Remove_any (p : Nat) (es : List Ent) (g : BitVec 64) (lv : Value) (hvs : List Value) (r : Rec) (w : World) (hd : DirAt w p es g lv hvs) (hlen : es.length ≤ 256) :
    Calls Tryd.prog 21 #[.pointer (some ⟨p, 0, none⟩), .agg r.cells.toArray] w fun e w' => e = .returned (.int .i64 (remE es r)) ∧ ∃ lv' hvs', DirAt w' p (remS es r) (remG es g r) lv' hvs' ∧ lv'.ownBlock = lv.ownBlock ∧ Chg (DirB p lv) w w' := by
  rcases ix_cases es r with h | ⟨i, h, hi⟩
  · refine (Remove_no p es g lv hvs r w hd hlen h).mono ?_
    rintro e w' ⟨rfl, hb⟩
    refine ⟨by unfold remE; rw [if_pos h], lv, hvs, ?_, rfl, Chg.of_below hb⟩
    unfold remS remG
    rw [if_pos h, if_pos h]
    exact hd.below hb
  · have hne : ¬ ix es r = -1 := by omega
    refine (Remove_ok p es g lv hvs r i w hd hlen h hi).mono ?_
    rintro e w' ⟨rfl, lv', h1, h2, h3⟩
    refine ⟨by unfold remE; rw [if_neg hne], lv', hvs.eraseIdx i, ?_, h2, h3⟩
    unfold remS remG
    rw [if_neg hne, if_neg hne, h]
    exact h1
/-- A directory that a law has made. -/
def DirS (w0 : World) (p : Nat) (es : List Ent) (g : BitVec 64) (w : World) : Prop := ∃ lv hvs, DirAt w p es g lv hvs ∧ es.length ≤ 256 ∧ (∀ e ∈ es, e.r.ok = true) ∧ w0.heap.size ≤ p ∧ Below w0.heap.size w0 w
theorem DirS.base {w0 w : World} {p : Nat} {es : List Ent} {g : BitVec 64} (h : DirS w0 p es g w) : Below w0.heap.size w0 w := by obtain ⟨_, _, _, _, _, _, h⟩ := h; exact h
theorem DirS.below {w0 w w' : World} {p : Nat} {es : List Ent} {g : BitVec 64} (h : DirS w0 p es g w) (hb : Below w.heap.size w w') : DirS w0 p es g w' := by
  obtain ⟨lv, hvs, h1, h2, h3, h4, h5⟩ := h
  exact ⟨lv, hvs, h1.below hb, h2, h3, h4, gr_tr h5 hb⟩
theorem DirS.chg {w0 w w' : World} {p : Nat} {es : List Ent} {lv : Value} {hvs : List Value} {g : BitVec 64} (h1 : DirAt w p es g lv hvs) (h4 : w0.heap.size ≤ p) (h5 : Below w0.heap.size w0 w) (hc : Chg (DirB p lv) w w') : Below w0.heap.size w0 w' :=
  h5.trans (hc.below (fun k hk => by
    rcases hk with e | e
    · omega
    · have := (h1.own.lt k e).1; omega) h5.size)
theorem DirS.le {w0 w : World} {p : Nat} {es : List Ent} {g : BitVec 64} (h : DirS w0 p es g w) : es.length ≤ 256 := by obtain ⟨_, _, _, h, _⟩ := h; exact h
theorem DirS.oks {w0 w : World} {p : Nat} {es : List Ent} {g : BitVec 64} (h : DirS w0 p es g w) : ∀ e ∈ es, e.r.ok = true := by obtain ⟨_, _, _, _, h, _⟩ := h; exact h
theorem addS_ok {es : List Ent} {r : Rec} {hs : List (List (BitVec 8))} (h1 : es.length ≤ 256) (h2 : ∀ e ∈ es, e.r.ok = true) : (addS es r hs).length ≤ 256 ∧ ∀ e ∈ addS es r hs, e.r.ok = true := by
  unfold addS
  split
  · rename_i h
    obtain ⟨a1, a2, a3, a4, a5⟩ := addE_ok h
    refine ⟨by rw [List.length_append]; simp; omega, fun e he => ?_⟩
    rcases List.mem_append.1 he with he | he
    · exact h2 e he
    · rw [List.mem_singleton.1 he]; exact a1
  · exact ⟨h1, h2⟩
theorem remS_ok {es : List Ent} {r : Rec} (h1 : es.length ≤ 256) (h2 : ∀ e ∈ es, e.r.ok = true) : (remS es r).length ≤ 256 ∧ ∀ e ∈ remS es r, e.r.ok = true := by
  unfold remS
  split
  · exact ⟨h1, h2⟩
  · exact ⟨Nat.le_trans (List.eraseIdx_sublist _ _).length_le h1, fun e he => h2 e ((List.eraseIdx_sublist _ _).mem he)⟩
theorem Add_s (w0 : World) (p : Nat) (es : List Ent) (g : BitVec 64) (r : Rec) (v : Value) (hs : List (List (BitVec 8))) (w : World) (h : DirS w0 p es g w) (hfit : r.Fit) (hv : SliceV w strC v hs) (hl : ∀ s ∈ hs, s.length ≤ 9223372036854775807) :
    Calls Tryd.prog 18 #[.pointer (some ⟨p, 0, none⟩), .agg r.cells.toArray, v] w fun e w' => e = .returned (.int .i64 (addE es r hs)) ∧ DirS w0 p (addS es r hs) (addG es g r hs) w' := by
  obtain ⟨lv, hvs, h1, h2, h3, h4, h5⟩ := h
  refine (Add_any p es g lv hvs r v hs w h1 h2 hfit hv hl).mono ?_
  rintro e w' ⟨rfl, lv', hvs', a1, -, a3⟩
  exact ⟨rfl, lv', hvs', a1, (addS_ok h2 h3).1, (addS_ok h2 h3).2, h4, DirS.chg h1 h4 h5 a3⟩
theorem Remove_s (w0 : World) (p : Nat) (es : List Ent) (g : BitVec 64) (r : Rec) (w : World) (h : DirS w0 p es g w) :
    Calls Tryd.prog 21 #[.pointer (some ⟨p, 0, none⟩), .agg r.cells.toArray] w fun e w' => e = .returned (.int .i64 (remE es r)) ∧ DirS w0 p (remS es r) (remG es g r) w' := by
  obtain ⟨lv, hvs, h1, h2, h3, h4, h5⟩ := h
  refine (Remove_any p es g lv hvs r w h1 h2).mono ?_
  rintro e w' ⟨rfl, lv', hvs', a1, -, a3⟩
  exact ⟨rfl, lv', hvs', a1, (remS_ok h2 h3).1, (remS_ok h2 h3).2, h4, DirS.chg h1 h4 h5 a3⟩
theorem Seen_s (w0 : World) (p : Nat) (es : List Ent) (g : BitVec 64) (host : List (BitVec 8)) (E : Int) (L : List Rec) (w : World) (h : DirS w0 p es g w) (hl : host.length ≤ 9223372036854775807) (hE : seenE host = E) (hL : seenR es host = L) :
    Calls Tryd.prog 19 #[.pointer (some ⟨p, 0, none⟩), .string (strOf host)] w fun e w' => ∃ a c, e = .returned (.tuple #[.slice a L.length c, .int .i64 E]) ∧ SliceV w' Dsc.Rec.cells (.slice a L.length c) L ∧ DirS w0 p es g w' ∧ Below w.heap.size w w' := by
  obtain ⟨lv, hvs, h1, h2, h3, h4, h5⟩ := h
  refine (Seen_at p es g lv hvs host E L w h1 h2 hl hE hL).mono ?_
  rintro e w' ⟨u, rfl, ho, hb⟩
  have hs := SliceV.of_own (f := Dsc.Rec.cells) (k := 10) (by decide) (fun _ => rfl) (xs := L) ho
  obtain ⟨a, c, rfl⟩ := own_shape ho
  exact ⟨a, c, rfl, hs, ⟨lv, hvs, h1.below hb, h2, h3, h4, gr_tr h5 hb⟩, hb⟩
theorem Log_s (w0 : World) (p : Nat) (es : List Ent) (g : BitVec 64) (host : List (BitVec 8)) (E : Int) (B : List (BitVec 8)) (w : World) (h : DirS w0 p es g w) (hl : host.length ≤ 9223372036854775807) (hE : lgE es host = E) (hB : lgB es g host = B) :
    Calls Tryd.prog 20 #[.pointer (some ⟨p, 0, none⟩), .string (strOf host)] w fun e w' => ∃ u, e = .returned (.tuple #[u, .int .i64 E]) ∧ BytesV w' u B ∧ DirS w0 p es g w' ∧ Below w.heap.size w w' := by
  obtain ⟨lv, hvs, h1, h2, h3, h4, h5⟩ := h
  refine (Log_at p es g lv hvs host E B w h1 h2 hl hE hB).mono ?_
  rintro e w' ⟨u, rfl, ho, hb⟩
  exact ⟨u, rfl, ho, ⟨lv, hvs, h1.below hb, h2, h3, h4, gr_tr h5 hb⟩, hb⟩
theorem Gen_s (w0 : World) (p : Nat) (es : List Ent) (g : BitVec 64) (w : World) (h : DirS w0 p es g w) :
    Calls Tryd.prog 22 #[.pointer (some ⟨p, 0, none⟩)] w fun e w' => e = .returned (.int .u64 (uv g)) ∧ w = w' := by
  obtain ⟨lv, hvs, h1, -⟩ := h
  exact Gen_at p es g lv hvs w h1
theorem DirS.new {w0 w W : World} (hb : Below w0.heap.size w0 w) (hW : W = w.alloc (.cells #[.slice none 0 0, .int .u64 0] 50)) : DirS w0 w.heap.size [] 0#64 W :=
  ⟨.slice none 0 0, [], ⟨by rw [hW]; exact heap_alloc_new w _, World.ownsRow_nil _ _ _ _, rfl, by intro i e hv h; simp at h⟩, by simp, by simp, hb.size, by rw [hW]; exact gr_tr hb (gr_alloc w _)⟩
namespace Dsc
structure Stp where
  kd : Int
  r : Rec
  hv : Value
  h : List (BitVec 8)
def Stp.cells (x : Stp) : List Value := [.int .i64 x.kd] ++ ((Rec.cells x.r) ++ ([x.hv] ++ ([.string (strOf x.h)] ++ ([]))))
def Stp.R (w : World) (x : Stp) : Prop := I64 x.kd ∧ Rec.R w x.r ∧ (∃ xs, SliceV w (fun y : List (BitVec 8) => [.string (strOf y)]) x.hv xs ∧ ∀ y ∈ xs, (fun y : List (BitVec 8) => y.length ≤ 9223372036854775807) y) ∧ x.h.length ≤ 9223372036854775807
theorem Stp.cells_len : ∀ y, (Stp.cells y).length = 13 := fun _ => rfl
set_option maxRecDepth 100000 in
theorem opens_Stp (w : World) : Opens Tryd.prog w 53 Stp Stp.cells (Stp.R w) := by
  intro H enc sp held fuel cs x h
  obtain ⟨hl, hfs⟩ := trod_fields Tryd.underlying53 h
  rw [show Tryd.prog.cellsOf 53 = 13 by kernel_rfl] at hl
  obtain ⟨y0, a0, r0⟩ := opens_field hfs 0 _ rfl 0 1 rfl (by kernel_rfl) (opens_i64 Tryd.underlying3)
  obtain ⟨y1, a1, r1⟩ := opens_field hfs 1 _ rfl 1 10 rfl (by kernel_rfl) ((opens_Rec w))
  obtain ⟨y2, a2, r2⟩ := opens_field hfs 2 _ rfl 11 1 rfl (by kernel_rfl) ((opens_slice (k := 1) Tryd.underlying51 (by kernel_rfl) (by decide) (fun _ => rfl) (opens_str Tryd.underlying9)))
  obtain ⟨y3, a3, r3⟩ := opens_field hfs 3 _ rfl 12 1 rfl (by kernel_rfl) (opens_str Tryd.underlying9)
  have e := (glue a0 (by decide : 0 + 1 = 1) (glue a1 (by decide : 1 + 10 = 11) (glue a2 (by decide : 11 + 1 = 12) (glue a3 (by decide : 12 + 1 = 13) (glue_end hl)))))
  rw [List.drop_zero] at e
  exact ⟨⟨y0, y1, y2, y3⟩, e, ⟨r0, r1, r2, r3⟩⟩
end Dsc
theorem rng_sub {w : World} {g o : Nat} {a b c : List Value} (h : w.rangeAt g o (a ++ (b ++ c))) : w.rangeAt g (o + a.length) b := fun j v hj => by
  have h2 := h (a.length + j) v (by
    rw [List.getElem?_append_right (by omega), Nat.add_sub_cancel_left, List.getElem?_append_left (List.getElem?_eq_some_iff.1 hj).1, hj])
  rw [Nat.add_assoc]; exact h2
/-- The cells of a step in memory. -/
theorem stp_at {w : World} {v : Value} {xs : List Stp} (h : SliceV w Stp.cells v xs) (k : Nat) (x : Stp) (hk : xs[k]? = some x) :
    ∃ g o c, v = .slice (some ⟨g, o, none⟩) xs.length c ∧ w.cell? ⟨g, o + k * 13, none⟩ = some (.int .i64 x.kd) ∧ w.rangeAt g (o + k * 13 + 1) x.r.cells ∧ w.cell? ⟨g, o + k * 13 + 11, none⟩ = some x.hv ∧ w.cell? ⟨g, o + k * 13 + 12, none⟩ = some (.string (strOf x.h)) := by
  obtain ⟨g, o, c, e, hr⟩ := SliceV.rng Stp.cells_len h k x hk (by decide)
  exact ⟨g, o, c, e, hr 0 _ rfl, rng_sub (a := [.int .i64 x.kd]) hr, hr 11 _ rfl, hr 12 _ rfl⟩
end Go.Proofs.YtjcgdenkmmgmfaaDoor
namespace Go.Proofs.YtjcgdenkmmgmfaaDoor
open Go.RowKit Dsc
set_option linter.unusedVariables false
set_option linter.unusedSimpArgs false
/-- Blocks of other types than a directory's are as they were. -/
def KeptT (w w' : World) : Prop := ∀ (k : Nat) (cs : Array Value) (t : TypeId) (fr : Nat × Nat), w.heap[k]? = some (.cells cs t fr) → t ≠ 80 → t ≠ 50 → w'.heap[k]? = some (.cells cs t fr)
theorem KeptT.refl (w : World) : KeptT w w := fun _ _ _ _ h _ _ => h
theorem KeptT.trans {a b c : World} (h : KeptT a b) (k : KeptT b c) : KeptT a c := fun x cs t fr hx h1 h2 => k x cs t fr (h x cs t fr hx h1 h2) h1 h2
theorem KeptT.of_below {w w' : World} (h : Below w.heap.size w w') : KeptT w w' := fun x cs t fr hx _ _ => blk_below hx h
theorem KeptT.of_chg {w w' : World} {p : Nat} {es : List Ent} {g : BitVec 64} {lv : Value} {hvs : List Value} (hd : DirAt w p es g lv hvs) (hc : Chg (DirB p lv) w w') : KeptT w w' := fun k cs t fr hk h1 h2 =>
  hc.blk hk (fun hB => by
    rcases hB with e | e
    · subst e
      rw [hd.blk] at hk
      injection hk with hk; injection hk with _ hk _
      exact h2 hk.symm
    · exact own_apartB hd.own hk (fun e => h1 e.symm) e)
theorem own_kt {w w' : World} {b : Nat} {e : TypeId} {s : Nat} {v : Value} {n : Nat} {xs : List Value} (h : w.ownsRow b e s v n xs) (hk : KeptT w w') (h1 : e ≠ 80) (h2 : e ≠ 50) : w'.ownsRow b e s v n xs := by
  obtain ⟨h0, h⟩ := h
  refine ⟨h0, h.imp_right ?_⟩
  rintro ⟨g, cap, cur, hv, hb, hh, r⟩
  exact ⟨g, cap, cur, hv, hb, hk g cur e (0, 0) hh h1 h2, r⟩
theorem Add_k (w0 : World) (p : Nat) (es : List Ent) (g : BitVec 64) (r : Rec) (v : Value) (hs : List (List (BitVec 8))) (w : World) (h : DirS w0 p es g w) (hfit : r.Fit) (hv : SliceV w strC v hs) (hl : ∀ s ∈ hs, s.length ≤ 9223372036854775807) :
    Calls Tryd.prog 18 #[.pointer (some ⟨p, 0, none⟩), .agg r.cells.toArray, v] w fun e w' => e = .returned (.int .i64 (addE es r hs)) ∧ DirS w0 p (addS es r hs) (addG es g r hs) w' ∧ KeptT w w' := by
  obtain ⟨lv, hvs, h1, h2, h3, h4, h5⟩ := h
  refine (Add_any p es g lv hvs r v hs w h1 h2 hfit hv hl).mono ?_
  rintro e w' ⟨rfl, lv', hvs', a1, -, a3⟩
  exact ⟨rfl, ⟨lv', hvs', a1, (addS_ok h2 h3).1, (addS_ok h2 h3).2, h4, DirS.chg h1 h4 h5 a3⟩, KeptT.of_chg h1 a3⟩
theorem Remove_k (w0 : World) (p : Nat) (es : List Ent) (g : BitVec 64) (r : Rec) (w : World) (h : DirS w0 p es g w) :
    Calls Tryd.prog 21 #[.pointer (some ⟨p, 0, none⟩), .agg r.cells.toArray] w fun e w' => e = .returned (.int .i64 (remE es r)) ∧ DirS w0 p (remS es r) (remG es g r) w' ∧ KeptT w w' := by
  obtain ⟨lv, hvs, h1, h2, h3, h4, h5⟩ := h
  refine (Remove_any p es g lv hvs r w h1 h2).mono ?_
  rintro e w' ⟨rfl, lv', hvs', a1, -, a3⟩
  exact ⟨rfl, ⟨lv', hvs', a1, (remS_ok h2 h3).1, (remS_ok h2 h3).2, h4, DirS.chg h1 h4 h5 a3⟩, KeptT.of_chg h1 a3⟩
/-- A change in a block of another type leaves a directory. -/
theorem DirS.set {w0 w w' : World} {p q : Nat} {es : List Ent} {g : BitVec 64} {cs : Array Value} {t : TypeId} {fr : Nat × Nat} (h : DirS w0 p es g w) (hq : w.heap[q]? = some (.cells cs t fr)) (h1 : t ≠ 80) (h2 : t ≠ 50) (h3 : t ≠ 9) (hb : w0.heap.size ≤ q) (hc : Chg (fun k => k = q) w w') : DirS w0 p es g w' := by
  obtain ⟨lv, hvs, a1, a2, a3, a4, a5⟩ := h
  refine ⟨lv, hvs, a1.chg (mv := lv) (q := q) hc ?_ ?_ ?_, a2, a3, a4, a5.trans (hc.below (fun k e => by omega) a5.size)⟩
  · intro e
    have e' : p = q := e
    subst e'
    rw [a1.blk] at hq
    injection hq with hq; injection hq with _ hq _
    exact h2 hq.symm
  · intro k hk e
    have e' : k = q := e
    subst e'
    exact own_apartB a1.own hq (fun e => h1 e.symm) hk
  · intro i e hv x y k hk e'
    have e'' : k = q := e'
    subst e''
    exact own_apartB (a1.el i e hv x y).2.1 hq (fun e => h3 e.symm) hk
theorem wpList_load_midG {P : Program} {ops : Array Oper} {rest : List Oper} {o : Oper} {a : Act} {w : World} {Q : Exit → Act → World → Prop} (hw : Region.wanted o (yielded ops a.tmps) = true) (ty : TypeId) (x : Operand) (ho : o.op = .load ty x)
    (b off : Nat) (hx : a.eval x = .pointer (some ⟨b, off, none⟩)) (cs : List Value) (d : TypeDesc) (hc : w.rangeAt b off cs)
    (hu : P.underlying ty = some d) (hd : d.isRow = true) (hi : (P.info? ty).map (·.size) = some cs.length)
    (h : wpList P ops Q rest (a.put o.dst (.agg cs.toArray)) w) : wpList P ops Q (o :: rest) a w :=
  wpList_step fun K hK => by rw [if_pos hw]; exact wp_load_mid ty x ho b off hx cs d hc hu hd hi (hK _ _ h)
theorem one_str (w : World) (s : List (BitVec 8)) : SliceV (w.alloc (.cells #[.string (strOf s)] 9)) strC (.slice (some ⟨w.heap.size, 0, none⟩) 1 1) [s] := by
  exact ⟨some ⟨w.heap.size, 0, none⟩, 1, rfl, by simp, by simp, by simp, Row.lit w #[.string (strOf s)] 9 (0, 0)⟩
namespace Dsc
theorem seen_le (es : List Ent) (host : List (BitVec 8)) : (seenL es host).length ≤ es.length := by
  unfold seenL; rw [List.length_map]; exact List.length_filter_le _ _
theorem log_fine {es : List Ent} {host : List (BitVec 8)} (h1 : es.length ≤ 256) (h2 : ∀ e ∈ es, e.r.ok = true) (hn : nmOk host = true) : lgE es host = 0 := by
  unfold lgE
  rw [if_pos hn]
  unfold logE
  have := seen_le es host
  rw [if_neg (by omega), if_pos]
  rw [List.all_eq_true]
  intro r hr
  obtain ⟨e, he, rfl⟩ := seen_mem hr
  exact h2 e he
end Dsc
end Go.Proofs.YtjcgdenkmmgmfaaDoor
namespace Go.Proofs.YtjcgdenkmmgmfaaDoor
open Go.RowKit Dsc
set_option linter.unusedVariables false
set_option linter.unusedSimpArgs false
attribute [local go_sem] Oper.semAt_some
theorem ok_fit40 {r : Rec} (h : r.ok = true) : r.Fit := by
  obtain ⟨_, h1, h2, h3⟩ := ok_parts h
  have := txOk_len h1; have := txOk_len h2; have := nmOk_len h3
  exact ⟨by omega, by omega, by omega⟩
namespace Dsc
/-- The record with a port. -/
def fr (k : Nat) : Rec := ⟨1#8, 0#8, false, false, BitVec.ofNat 16 k, 0#16, 32#16, [], [115#8], [97#8]⟩
def fes (k : Nat) : List Ent := (List.range k).map fun i => ⟨fr i, []⟩
theorem fr_ok (k : Nat) : (fr k).ok = true := rfl
theorem fr_fit (k : Nat) : (fr k).Fit := ok_fit40 (fr_ok k)
theorem fr_same {i j : Nat} (hi : i < 65536) (hj : j < 65536) : (fr i).same (fr j) = decide (i = j) := by
  rw [Bool.eq_iff_iff, same_iff, decide_eq_true_eq]
  constructor
  · intro h
    have h2 : BitVec.ofNat 16 i = BitVec.ofNat 16 j := congrArg Rec.po h
    have h3 := congrArg BitVec.toNat h2
    rw [BitVec.toNat_ofNat, BitVec.toNat_ofNat] at h3
    omega
  · rintro rfl; rfl
theorem fes_len (k : Nat) : (fes k).length = k := by unfold fes; simp
theorem fes_get {k i : Nat} (h : i < (fes k).length) : (fes k)[i] = ⟨fr i, []⟩ := by
  have e : (fes k)[i]? = some ⟨fr i, []⟩ := by
    rw [fes_len] at h
    unfold fes; rw [List.getElem?_map, List.getElem?_range h]; rfl
  rw [List.getElem?_eq_getElem h] at e
  exact Option.some.inj e
theorem fes_more (k : Nat) : fes (k + 1) = fes k ++ [⟨fr k, []⟩] := by unfold fes; rw [List.range_succ, List.map_append]; rfl
theorem fes_ix {k j : Nat} (hk : k ≤ 256) (hj : j < 65536) : ix (fes k) (fr j) = if j < k then (j : Int) else -1 := by
  by_cases h : j < k
  · rw [if_pos h]
    refine ix_at (by rw [fes_len]; exact h) ?_ ?_
    · rw [fes_get]; show (fr j).same (fr j) = true; exact same_self _
    · intro i hi
      rw [fes_get]
      show (fr i).same (fr j) = false
      rw [fr_same (by omega) hj]; exact decide_eq_false (by omega)
  · rw [if_neg h]
    refine ix_no (fun i hi => ?_)
    rw [fes_get]
    show (fr i).same (fr j) = false
    rw [fes_len] at hi
    rw [fr_same (by omega) hj]; exact decide_eq_false (by omega)
theorem fes_add {k : Nat} (hk : k < 256) : addE (fes k) (fr k) [] = 0 := by
  unfold addE
  rw [fr_ok, fes_len, fes_ix (by omega) (by omega), if_neg (by simp), if_neg (by omega), if_neg (by omega)]
theorem fes_full (j : Nat) : addE (fes 256) (fr j) [] = 7 := by
  unfold addE
  rw [fr_ok, fes_len, if_neg (by simp), if_pos (by omega)]
theorem ix_none {es : List Ent} {r : Rec} (h : ∀ e ∈ es, e.r.same r = false) : ix es r = -1 := ix_no (fun i hi => h _ (List.getElem_mem hi))
/-- What is left when one is taken out. -/
theorem fes_out {a j : Nat} (ha : a < 256) (hj : j < 65536) (hd : j = a ∨ 256 ≤ j) : ix ((fes 256).eraseIdx a) (fr j) = -1 := by
  refine ix_none (fun e he => ?_)
  rw [List.mem_eraseIdx_iff_getElem] at he
  obtain ⟨i, hi, hne, rfl⟩ := he
  rw [fes_get]
  show (fr i).same (fr j) = false
  rw [fes_len] at hi
  rw [fr_same (by omega) hj]; exact decide_eq_false (by omega)
theorem fes_outlen {a : Nat} (ha : a < 256) : ((fes 256).eraseIdx a).length = 255 := by
  rw [List.length_eraseIdx, fes_len, if_pos ha]
theorem fes_again {a : Nat} (ha : a < 256) : addE ((fes 256).eraseIdx a) (fr 1000) [] = 0 := by
  unfold addE
  rw [fr_ok, fes_outlen ha, fes_out ha (by omega) (.inr (by omega)), if_neg (by simp), if_neg (by omega), if_neg (by omega)]
theorem fes_last {a : Nat} (ha : a < 256) : addE ((fes 256).eraseIdx a ++ [⟨fr 1000, []⟩]) (fr 1000) [] = 7 := by
  unfold addE
  rw [fr_ok, if_neg (by simp), if_pos (by rw [List.length_append, fes_outlen ha]; simp)]
end Dsc
theorem fr_cells (k : Nat) (h : k < 65536) : (fr k).cells.toArray = #[.int .u8 1, .int .u8 0, .bool false, .bool false, .int .u16 (k : Int), .int .u16 0, .int .u16 32, .string ⟨#[]⟩, .string ⟨#[115]⟩, .string ⟨#[97]⟩] := by
  have e : uv (BitVec.ofNat 16 k) = (k : Int) := by
    unfold uv; rw [BitVec.toNat_ofNat]; omega
  show (#[.int .u8 1, .int .u8 0, .bool false, .bool false, .int .u16 (uv (BitVec.ofNat 16 k)), .int .u16 0, .int .u16 32, .string ⟨#[]⟩, .string ⟨#[115]⟩, .string ⟨#[97]⟩] : Array Value) = _
  rw [e]
theorem wpList_load_rowH {P : Program} {ops : Array Oper} {rest : List Oper} {o : Oper} {a : Act} {w : World} {Q : Exit → Act → World → Prop} (hw : Region.wanted o (yielded ops a.tmps) = true) (ty : TypeId) (x : Operand) (ho : o.op = .load ty x)
    (g : Nat) (hx : a.eval x = .pointer (some ⟨g, 0, none⟩)) (t : TypeId) (cs : Array Value) (fr : Nat × Nat) (d : TypeDesc) (hg : w.heap[g]? = some (.cells cs t fr))
    (hu : P.underlying ty = some d) (hd : (match d with | .struct _ | .array _ _ => true | _ => false) = true) (hi : (P.info? ty).map (·.size) = some cs.size)
    (h : wpList P ops Q rest (a.put o.dst (.agg cs)) w) : wpList P ops Q (o :: rest) a w :=
  wpList_step fun K hK => by rw [if_pos hw]; exact wp_load_row ty x ho g hx t cs fr d hg hu hd hi (hK _ _ h)
theorem ofNat16 {k : Nat} (h : k < 65536) : uv (BitVec.ofNat 16 k) = (k : Int) := by
  unfold uv
  rw [BitVec.toNat_ofNat]
  omega
theorem set_port {w0 w : World} {p q : Nat} {es : List Ent} {g : BitVec 64} {po : Int} (n : Int) (h : DirS w0 p es g w) (hq : w.heap[q]? = some (.cells #[.int .u8 1, .int .u8 0, .bool false, .bool false, .int .u16 po, .int .u16 0, .int .u16 32, .string ⟨#[]⟩, .string ⟨#[115]⟩, .string ⟨#[97]⟩] 30 (0, 0))) (hb : w0.heap.size ≤ q) :
    DirS w0 p es g (w.setCell ⟨q, 4, none⟩ (.int .u16 n)) ∧ (w.setCell ⟨q, 4, none⟩ (.int .u16 n)).heap[q]? = some (.cells #[.int .u8 1, .int .u8 0, .bool false, .bool false, .int .u16 n, .int .u16 0, .int .u16 32, .string ⟨#[]⟩, .string ⟨#[115]⟩, .string ⟨#[97]⟩] 30 (0, 0)) :=
  ⟨h.set hq (by decide) (by decide) (by decide) hb (Chg.setCell (B := fun k => k = q) (p := ⟨q, 4, none⟩) w rfl _), heap_setCell_same _ _ _ _ _ _ hq⟩
theorem Add_fr (w0 : World) (p : Nat) (es es' : List Ent) (g g' : BitVec 64) (k : Nat) (E : Int) (w : World) (h : DirS w0 p es g w) (hk : k < 65536) (hE : addE es (fr k) [] = E) (h1 : addS es (fr k) [] = es') (h2 : addG es g (fr k) [] = g') :
    Calls Tryd.prog 18 #[.pointer (some ⟨p, 0, none⟩), .agg #[.int .u8 1, .int .u8 0, .bool false, .bool false, .int .u16 (k : Int), .int .u16 0, .int .u16 32, .string ⟨#[]⟩, .string ⟨#[115]⟩, .string ⟨#[97]⟩], .slice none 0 0] w fun e w' => e = .returned (.int .i64 E) ∧ DirS w0 p es' g' w' ∧ KeptT w w' := by
  subst hE; subst h1; subst h2
  rw [← fr_cells k hk]
  exact Add_k w0 p es g (fr k) (.slice none 0 0) [] w h (fr_fit k) (SliceV.nilV w) (by simp)
theorem Rem_fr (w0 : World) (p : Nat) (es es' : List Ent) (g g' : BitVec 64) (k : Nat) (E : Int) (w : World) (h : DirS w0 p es g w) (hk : k < 65536) (hE : remE es (fr k) = E) (h1 : remS es (fr k) = es') (h2 : remG es g (fr k) = g') :
    Calls Tryd.prog 21 #[.pointer (some ⟨p, 0, none⟩), .agg #[.int .u8 1, .int .u8 0, .bool false, .bool false, .int .u16 (k : Int), .int .u16 0, .int .u16 32, .string ⟨#[]⟩, .string ⟨#[115]⟩, .string ⟨#[97]⟩]] w fun e w' => e = .returned (.int .i64 E) ∧ DirS w0 p es' g' w' ∧ KeptT w w' := by
  subst hE; subst h1; subst h2
  rw [← fr_cells k hk]
  exact Remove_k w0 p es g (fr k) w h
set_option maxHeartbeats 6400000 in
set_option maxRecDepth 20000 in
theorem lawFull (a : BitVec 8) (w : World) :
    Calls Tryd.prog 7 #[.int .u8 (uv a)] w fun e w' => e = .returned (.bool true) ∧ Below w.heap.size w w' := by
  obtain ⟨n, hn⟩ : ∃ n, a.toNat = n := ⟨_, rfl⟩
  have hn256 : n < 256 := by rw [← hn]; exact a.isLt
  have hua : uv a = (n : Int) := by unfold uv; rw [hn]
  rw [hua]
  have A1 := Lib.hid (fun w' h => Add_fr w w.heap.size (fes 256) (fes 256) (BitVec.ofNat 64 256) (BitVec.ofNat 64 256) 1000 7 w' h (by omega) (fes_full 1000) (by unfold addS; rw [if_neg (by rw [fes_full]; decide)]) (by unfold addG; rw [if_neg (by rw [fes_full]; decide)]))
  have hix : ix (fes 256) (fr n) = (n : Int) := by rw [fes_ix (by omega) (by omega), if_pos hn256]
  have hix2 : ix ((fes 256).eraseIdx n) (fr n) = -1 := fes_out hn256 (by omega) (.inl rfl)
  have B1 := Lib.hid (fun w' h => Rem_fr w w.heap.size (fes 256) ((fes 256).eraseIdx n) (BitVec.ofNat 64 256) (BitVec.ofNat 64 257) n 0 w' h (by omega) (by unfold remE; rw [hix, if_neg (by omega)]) (by unfold remS; rw [hix, if_neg (by omega)]; rfl) (by unfold remG; rw [hix, if_neg (by omega)]; rfl))
  have C1 := Lib.hid (fun w' h => Rem_fr w w.heap.size ((fes 256).eraseIdx n) ((fes 256).eraseIdx n) (BitVec.ofNat 64 257) (BitVec.ofNat 64 257) n 9 w' h (by omega) (by unfold remE; rw [hix2]; rfl) (by unfold remS; rw [hix2]; rfl) (by unfold remG; rw [hix2]; rfl))
  have D1 := Lib.hid (fun w' h => Add_fr w w.heap.size ((fes 256).eraseIdx n) ((fes 256).eraseIdx n ++ [⟨fr 1000, []⟩]) (BitVec.ofNat 64 257) (BitVec.ofNat 64 258) 1000 0 w' h (by omega) (fes_again hn256) (by unfold addS; rw [if_pos (fes_again hn256)]) (by unfold addG; rw [if_pos (fes_again hn256)]; rfl))
  have E1 := Lib.hid (fun w' h => Add_fr w w.heap.size ((fes 256).eraseIdx n ++ [⟨fr 1000, []⟩]) ((fes 256).eraseIdx n ++ [⟨fr 1000, []⟩]) (BitVec.ofNat 64 258) (BitVec.ofNat 64 258) 1000 7 w' h (by omega) (fes_last hn256) (by unfold addS; rw [if_neg (by rw [fes_last hn256]; decide)]) (by unfold addG; rw [if_neg (by rw [fes_last hn256]; decide)]))
  have G1 := Lib.hid (show ∀ es w', DirS w w.heap.size es (BitVec.ofNat 64 258) w' → Calls Tryd.prog 22 #[.pointer (some ⟨w.heap.size, 0, none⟩)] w' fun e w'' => e = .returned (.int .u64 258) ∧ w' = w'' from fun es w' h => Gen_s w w.heap.size es (BitVec.ofNat 64 258) w' h)
  obtain ⟨W, hW⟩ : ∃ x, x = w.alloc (.cells #[.slice none 0 0, .int .u64 0] 50) := ⟨_, rfl⟩
  have DS0 := Lib.hid (DirS.new (w0 := w) (Below.refl _ _) hW)
  have HW := Lib.hid hW
  have hwn : uv (BitVec.ofNat 16 n) = (n : Int) := ofNat16 (by omega)
  clear hW hn hua hix hix2
  go_enter Tryd.func7, Tryd.ntmps7
  go_upto_region 2 with fail
  rw [← HW.out]
  clear HW
  go_upto_region 3 with (refine wpList_store_new rfl 30 (.tmp 4) (.tmp 11) rfl #[.int .u8 1, .int .u8 0, .bool false, .bool false, .int .u16 0, .int .u16 0, .int .u16 32, .string ⟨#[]⟩, .string ⟨#[115]⟩, .string ⟨#[97]⟩] 30 _ rfl rfl (by kernel_rfl) rfl (by kernel_rfl) ?_; intro w2 h2 hb; have R2 := Lib.hid h2; have DS2 := Lib.hid (DS0.out.below hb); clear h2 hb)
  have QL := Lib.hid (show w.heap.size ≤ W.heap.size from DS0.out.base.size)
  obtain ⟨p, hp⟩ : ∃ x, w.heap.size = x := ⟨_, rfl⟩
  obtain ⟨q, hq⟩ : ∃ x, W.heap.size = x := ⟨_, rfl⟩
  rw [hq] at R2 QL ⊢
  have HP := Lib.hid hp
  clear hq DS0
  rw [hp] at DS2 A1 B1 C1 D1 E1 G1
  rw [show (Value.pointer (some ⟨w.heap.size, 0, none⟩)) = Value.pointer (some ⟨p, 0, none⟩) by rw [hp]]
  clear hp
  go_wp2
  go_loopw [5] (fun i wr => ∃ (k : Nat) (po : Int), k ≤ 256 ∧ i = .int .i64 k ∧ DirS w p (fes k) (BitVec.ofNat 64 k) wr ∧ Hid (wr.heap[q]? = some (.cells #[.int .u8 1, .int .u8 0, .bool false, .bool false, .int .u16 po, .int .u16 0, .int .u16 32, .string ⟨#[]⟩, .string ⟨#[115]⟩, .string ⟨#[97]⟩] 30 (0, 0)))) (fun i _ => 256 - (intOf i).toNat)
  case atStart => exact ⟨0, 0, by omega, rfl, DS2.out, R2⟩
  case round =>
    obtain ⟨k, po, hk, rfl, hds, RR⟩ := hrel
    have DS := Lib.hid hds
    clear hds
    have c4 : wr.cell? ⟨q, 4, none⟩ = some (.int .u16 po) := (cell_of_row _ _ 4 _ _ _ RR.out).trans rfl
    have z4 := frozen_of_row _ _ 4 _ _ RR.out
    by_cases hlt : k < 256
    · have hwk : uv (BitVec.ofNat 16 k) = (k : Int) := ofNat16 (by omega)
      have AK := Lib.hid (fun w' h => Add_fr w p (fes k) (fes (k + 1)) (BitVec.ofNat 64 k) (BitVec.ofNat 64 (k + 1)) k 0 w' h (by omega) (fes_add hlt) (by unfold addS; rw [if_pos (fes_add hlt), fes_more]) (by unfold addG; rw [if_pos (fes_add hlt)]; apply BitVec.eq_of_toNat_eq; simp))
      go_upto_region 7 with fail
      obtain ⟨d1, d2⟩ := set_port (k : Int) DS.out RR.out QL.out
      obtain ⟨w3, hw3⟩ : ∃ x, x = wr.setCell ⟨q, 4, none⟩ (.int .u16 (k : Int)) := ⟨_, rfl⟩
      rw [← hw3] at d1 d2 ⊢
      have DS3 := Lib.hid d1; have R3 := Lib.hid d2
      clear d1 d2 hw3 c4 z4
      go_wp2_with (first | (refine wpList_load_rowG rfl 30 (.tmp 4) rfl q rfl 30 #[.int .u8 1, .int .u8 0, .bool false, .bool false, .int .u16 (k : Int), .int .u16 0, .int .u16 32, .string ⟨#[]⟩, .string ⟨#[115]⟩, .string ⟨#[97]⟩] (0, 0) _ R3.out Tryd.underlying30 rfl (by kernel_rfl) ?_) | (go_at_call 18; go_loud (refine (AK.out _ DS3.out).mono ?_; rintro e w4 ⟨rfl, hds, hkt⟩; have DS4 := Lib.hid hds; have R4 := Lib.hid (hkt q _ _ _ R3.out (by decide) (by decide)); clear hds hkt)))
      go_roundw
      case rel => exact ⟨k + 1, k, by omega, by go_num, DS4.out, R4⟩
      case measure => simp [intOf]; omega
    · obtain rfl : k = 256 := by omega
      go_upto_region 10 with fail
      obtain ⟨d1, d2⟩ := set_port 1000 DS.out RR.out QL.out
      obtain ⟨w3, hw3⟩ : ∃ x, x = wr.setCell ⟨q, 4, none⟩ (.int .u16 1000) := ⟨_, rfl⟩
      rw [← hw3] at d1 d2 ⊢
      have DS3 := Lib.hid d1; have R3 := Lib.hid d2
      clear d1 d2 hw3 c4 z4
      go_upto_region 11 with (first | (refine wpList_load_rowG rfl 30 (.tmp 4) rfl q rfl 30 #[.int .u8 1, .int .u8 0, .bool false, .bool false, .int .u16 1000, .int .u16 0, .int .u16 32, .string ⟨#[]⟩, .string ⟨#[115]⟩, .string ⟨#[97]⟩] (0, 0) _ R3.out Tryd.underlying30 rfl (by kernel_rfl) ?_) | (go_at_call 18; go_loud (refine (A1.out _ DS3.out).mono ?_; rintro e w4 ⟨rfl, hds, hkt⟩; have DS4 := Lib.hid hds; have R4 := Lib.hid (hkt q _ _ _ R3.out (by decide) (by decide)); clear hds hkt)))
      have c4 : w4.cell? ⟨q, 4, none⟩ = some (.int .u16 1000) := (cell_of_row _ _ 4 _ _ _ R4.out).trans rfl
      have z4 := frozen_of_row _ _ 4 _ _ R4.out
      go_upto_region 12 with fail
      obtain ⟨d1, d2⟩ := set_port (n : Int) DS4.out R4.out QL.out
      obtain ⟨w5, hw5⟩ : ∃ x, x = w4.setCell ⟨q, 4, none⟩ (.int .u16 (n : Int)) := ⟨_, rfl⟩
      rw [← hw5] at d1 d2 ⊢
      have DS5 := Lib.hid d1; have R5 := Lib.hid d2
      clear d1 d2 hw5 c4 z4
      go_upto_region 13 with (first | (refine wpList_load_rowG rfl 30 (.tmp 4) rfl q rfl 30 #[.int .u8 1, .int .u8 0, .bool false, .bool false, .int .u16 (n : Int), .int .u16 0, .int .u16 32, .string ⟨#[]⟩, .string ⟨#[115]⟩, .string ⟨#[97]⟩] (0, 0) _ R5.out Tryd.underlying30 rfl (by kernel_rfl) ?_) | (go_at_call 21; go_loud (refine (B1.out _ DS5.out).mono ?_; rintro e w6 ⟨rfl, hds, hkt⟩; have DS6 := Lib.hid hds; have R6 := Lib.hid (hkt q _ _ _ R5.out (by decide) (by decide)); clear hds hkt)))
      go_upto_region 14 with (first | (refine wpList_load_rowG rfl 30 (.tmp 4) rfl q rfl 30 #[.int .u8 1, .int .u8 0, .bool false, .bool false, .int .u16 (n : Int), .int .u16 0, .int .u16 32, .string ⟨#[]⟩, .string ⟨#[115]⟩, .string ⟨#[97]⟩] (0, 0) _ R6.out Tryd.underlying30 rfl (by kernel_rfl) ?_) | (go_at_call 21; go_loud (refine (C1.out _ DS6.out).mono ?_; rintro e w7 ⟨rfl, hds, hkt⟩; have DS7 := Lib.hid hds; have R7 := Lib.hid (hkt q _ _ _ R6.out (by decide) (by decide)); clear hds hkt)))
      have c4 : w7.cell? ⟨q, 4, none⟩ = some (.int .u16 (n : Int)) := (cell_of_row _ _ 4 _ _ _ R7.out).trans rfl
      have z4 := frozen_of_row _ _ 4 _ _ R7.out
      go_upto_region 15 with fail
      obtain ⟨d1, d2⟩ := set_port 1000 DS7.out R7.out QL.out
      obtain ⟨w8, hw8⟩ : ∃ x, x = w7.setCell ⟨q, 4, none⟩ (.int .u16 1000) := ⟨_, rfl⟩
      rw [← hw8] at d1 d2 ⊢
      have DS8 := Lib.hid d1; have R8 := Lib.hid d2
      clear d1 d2 hw8 c4 z4
      go_wp2_with (first
        | (refine wpList_load_rowG rfl 30 (.tmp 4) rfl q rfl 30 #[.int .u8 1, .int .u8 0, .bool false, .bool false, .int .u16 1000, .int .u16 0, .int .u16 32, .string ⟨#[]⟩, .string ⟨#[115]⟩, .string ⟨#[97]⟩] (0, 0) _ R8.out Tryd.underlying30 rfl (by kernel_rfl) ?_)
        | (go_at_call 18; go_loud (refine (D1.out _ DS8.out).mono ?_; rintro e w9 ⟨rfl, hds, hkt⟩; have DS9 := Lib.hid hds; have R9 := Lib.hid (hkt q _ _ _ R8.out (by decide) (by decide)); clear hds hkt))
        | (refine wpList_load_rowG rfl 30 (.tmp 4) rfl q rfl 30 #[.int .u8 1, .int .u8 0, .bool false, .bool false, .int .u16 1000, .int .u16 0, .int .u16 32, .string ⟨#[]⟩, .string ⟨#[115]⟩, .string ⟨#[97]⟩] (0, 0) _ R9.out Tryd.underlying30 rfl (by kernel_rfl) ?_)
        | (go_at_call 18; go_loud (refine (E1.out _ DS9.out).mono ?_; rintro e wa ⟨rfl, hds, hkt⟩; have DSA := Lib.hid hds; have RA := Lib.hid (hkt q _ _ _ R9.out (by decide) (by decide)); clear hds hkt))
        | (go_at_call 22; go_loud (refine (G1.out _ _ DSA.out).mono ?_; rintro e wb ⟨rfl, rfl⟩))
        | (go_at_call 8; go_loud (refine (known_any _).mono ?_; rintro e wc ⟨rfl, hw⟩; have DC := Lib.hid (gr_tr DSA.out.base hw); clear hw)))
      go_ret
      exact ⟨rfl, DC.out⟩
end Go.Proofs.YtjcgdenkmmgmfaaDoor
