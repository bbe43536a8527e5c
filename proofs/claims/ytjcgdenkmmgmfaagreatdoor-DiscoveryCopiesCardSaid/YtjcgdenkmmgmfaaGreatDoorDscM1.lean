/- Merged: DscDel, DscRem, DscOp, DscS2, DscS3, DscRef, DscRadd, DscRrem, DscRsee. -/
import Derived.Test.YtjcgdenkmmgmfaaGreatDoorRows2
import Derived.Test.YtjcgdenkmmgmfaaGreatDoorChg
import Derived.Deep.RegionLaw
import Derived.Lib.SliceRun
import Derived.Deep.DeepCutAuto
import Derived.Test.YtjcgdenkmmgmfaaGreatDoorDscO
import Derived.Test.YtjcgdenkmmgmfaaGreatDoorDscM
import Derived.Test.YtjcgdenkmmgmfaaGreatDoorDscG
import Derived.Test.YtjcgdenkmmgmfaaGreatDoorDscW
import Derived.Test.YtjcgdenkmmgmfaaGreatDoorDscH
import Derived.Test.YtjcgdenkmmgmfaaGreatDoorOpenG
namespace Go.Proofs.YtjcgdenkmmgmfaaGreatDoor
open Go.RowKit
set_option linter.unusedVariables false
set_option linter.unusedSimpArgs false
attribute [local go_sem] Oper.semAt_some
namespace Dsc
/-- Values stored one behind the other. -/
def putA : Array Value → Nat → List Value → Array Value
  | c, _, [] => c
  | c, o, v :: r => putA (c.setIfInBounds o v) (o + 1) r
theorem putA_size : ∀ (vs : List Value) (c : Array Value) (o : Nat), (putA c o vs).size = c.size
  | [], _, _ => rfl
  | v :: r, c, o => by unfold putA; rw [putA_size r]; simp
theorem putA_get : ∀ (vs : List Value) (c : Array Value) (o j : Nat), o + vs.length ≤ c.size → (putA c o vs)[j]? = if o ≤ j ∧ j < o + vs.length then vs[j - o]? else c[j]?
  | [], c, o, j, _ => by unfold putA; rw [if_neg (fun h => by have := h.1; have := h.2; simp at *; omega)]
  | v :: r, c, o, j, h => by
    rw [List.length_cons] at h ⊢
    unfold putA
    rw [putA_get r _ _ _ (by simp; omega)]
    by_cases h1 : o + 1 ≤ j ∧ j < o + 1 + r.length
    · rw [if_pos h1, if_pos (by omega), show j - o = (j - (o + 1)) + 1 by omega, List.getElem?_cons_succ]
    · rw [if_neg h1]
      by_cases h2 : j = o
      · subst h2
        rw [if_pos (by omega), Array.getElem?_setIfInBounds_self, Nat.sub_self, List.getElem?_cons_zero, if_pos (show j < c.size by omega)]
      · rw [if_neg (by omega), Array.getElem?_setIfInBounds_ne (by omega)]
theorem putA_heap {g : Nat} {t : TypeId} : ∀ (vs : List Value) (o : Nat) (w : World) (c : Array Value), w.heap[g]? = some (.cells c t (0, 0)) → (w.setCells g o vs).heap[g]? = some (.cells (putA c o vs) t (0, 0))
  | [], _, _, _, h => h
  | v :: r, o, w, c, h => putA_heap r (o + 1) _ _ (heap_setCell_same w g o c t v h)
theorem putA_chg {g : Nat} : ∀ (vs : List Value) (o : Nat) (w : World), Chg (fun k => k = g) w (w.setCells g o vs)
  | [], _, w => Chg.refl _ w
  | v :: r, o, w => (Chg.setCell (B := fun k => k = g) (p := ⟨g, o, none⟩) w rfl v).trans (putA_chg r (o + 1) _)
end Dsc
open Dsc
/-- 'clear(s)', s a slice of one element that is an aggregate. -/
theorem run_clear_agg {P : Program} (w : World) (t e ty : TypeId) (z : Value) (ht : P.underlying t = some (.slice e)) (hv : ∀ w, (zeroValue e).run P w = .ok z w) (h1 : ∀ v ∈ z.cells.toList, v.oneCell' = true) (b o c : Nat)
    (hc : ∀ j, j < z.cells.size → (w.cell? ⟨b, o + j, none⟩).isSome = true) (hf : ∀ j, j < z.cells.size → w.frozen? ⟨b, o + j, none⟩ = false) :
    (Builtin.clear_ #[t] ty #[.slice (some ⟨b, o, none⟩) 1 c]).run P w = .ok (.tuple #[]) (w.setCells b o z.cells.toList) := by
  have hzc : (Builtin.zeroCells z.cells 1) = z.cells := by
    unfold Builtin.zeroCells
    apply Array.ext
    · simp
    · intro i h1 h2
      simp at h1
      simp [Nat.mod_eq_of_lt h2, getElem!_pos z.cells i h2]
  have hst := run_storeCells_cells (P := P) b o z.cells.toList 0 w (by simpa using hc) (by simpa using hf) h1
  simp only [Nat.add_zero] at hst
  simp [Builtin.clear_, run_underlying ht, hv, hzc, hst]
set_option maxHeartbeats 6400000 in
set_option maxRecDepth 20000 in
theorem Delete_at (base q n c i : Nat) (xs : List Value) (w : World) (hown : w.ownsRow base 70 11 (.slice (some ⟨q, 0, none⟩) n c) n xs) (hi : i < n) (hn : n ≤ 256) (hone : ∀ v ∈ xs, v.oneCell' = true) :
    Calls Tryz.prog 34 #[.slice (some ⟨q, 0, none⟩) n c, .int .i64 i, .int .i64 ((i : Int) + 1)] w fun e w' => e = .returned (.slice (some ⟨q, 0, none⟩) (n - 1) c) ∧ w'.ownsRow base 70 11 (.slice (some ⟨q, 0, none⟩) (n - 1) c) (n - 1) (xs.take (i * 11) ++ xs.drop ((i + 1) * 11)) ∧ Chg (fun k => k = q) w w' := by
  obtain ⟨hlen, hh⟩ := hown
  rcases hh with ⟨h0, _⟩ | ⟨g, cap, cur, hv, hbase, hheap, hnc, hcm, hcs, htake⟩
  · cases h0
  injection hv with hv1 hv2 hv3
  injection hv1 with hv1
  injection hv1 with hv1 hv4
  subst hv1; subst hv3
  have hmax : c ≤ 9223372036854775807 := hcm
  obtain ⟨i0, hi0, hz0, hz1, hz2⟩ := info_parts (show (Tryz.prog.info? 70).map (fun i => (i.zero, i.size, i.bytes)) = some (some (.agg #[.int .u8 0, .int .u8 0, .bool false, .bool false, .int .u16 0, .int .u16 0, .int .u16 0, .string ⟨#[]⟩, .string ⟨#[]⟩, .string ⟨#[]⟩, .slice none 0 0]), 11, 88) by kernel_rfl)
  obtain ⟨news, hnews⟩ : ∃ news, xs.drop ((i + 1) * 11) = news := ⟨_, rfl⟩
  have hnl : news.length = (n - (i + 1)) * 11 := by rw [← hnews, List.length_drop, hlen]; omega
  have hxs : ∀ j, j < n * 11 → xs[j]? = cur[j]? := fun j hj => by
    rw [← htake, List.getElem?_take_of_lt hj, Array.getElem?_toList]
  have hng : ∀ t, t < news.length → news[t]? = cur[(i + 1) * 11 + t]? := fun t ht => by
    rw [← hnews, List.getElem?_drop, hxs _ (by omega)]
  have hcell : ∀ j, w.cell? ⟨q, j, none⟩ = cur[j]? := fun j => cell_of_row _ _ j _ _ _ hheap
  have hfro : ∀ j, w.frozen? ⟨q, j, none⟩ = false := fun j => frozen_of_row _ _ j _ _ hheap
  obtain ⟨A, hA, hsrc⟩ : ∃ A : Addr, (if c = i + 1 then some (⟨q, 0, none⟩ : Addr) else some ⟨q, (i + 1) * 11, none⟩) = some A ∧ Hid (∀ t u, news[t]? = some u → w.drew.cell? (A.add t) = some u) := by
    by_cases h : c = i + 1
    · refine ⟨⟨q, 0, none⟩, by simp [h], Lib.hid (fun t u hu => ?_)⟩
      have h0 : news.length = 0 := by rw [hnl]; omega
      rw [List.length_eq_zero_iff.1 h0] at hu
      simp at hu
    · refine ⟨⟨q, (i + 1) * 11, none⟩, by simp [h], Lib.hid (fun t u hu => ?_)⟩
      have ht := (List.getElem?_eq_some_iff.1 hu).1
      rw [hng t ht] at hu
      rw [Addr.add_lit]
      exact (hcell ((i + 1) * 11 + t)).trans hu
  have s1 : Hid (news.length = (n - (i + 1)) * 11) := Lib.hid hnl
  have s2 : Hid (∀ u ∈ news, u.oneCell' = true) := Lib.hid (fun u hu => hone u (by rw [← hnews] at hu; exact List.mem_of_mem_drop hu))
  have s3 : Hid (∀ t, t < news.length → (w.drew.cell? ⟨q, 0 + i * 11 + t, none⟩).isSome = true ∧ w.drew.frozen? ⟨q, 0 + i * 11 + t, none⟩ = false) := Lib.hid (fun t ht => by
    refine ⟨?_, hfro _⟩
    show (w.cell? _).isSome = true
    rw [hcell, Array.getElem?_eq_getElem (by rw [hcs]; omega)]; rfl)
  obtain ⟨W1, hW1⟩ : ∃ W1, W1 = w.drew.setCells q (0 + i * 11) news := ⟨_, rfl⟩
  have hrow1 : W1.heap[q]? = some (.cells (putA cur (0 + i * 11) news) 70 (0, 0)) := by rw [hW1]; exact putA_heap news _ _ _ hheap
  have hcg1 : Chg (fun k => k = q) w W1 := by rw [hW1]; exact (Chg.of_below (gr_drew w)).trans (putA_chg news _ _)
  have hsz1 : (putA cur (0 + i * 11) news).size = c * 11 := by rw [putA_size, hcs]
  obtain ⟨cur1, hcur1⟩ : ∃ x, putA cur (0 + i * 11) news = x := ⟨_, rfl⟩
  rw [hcur1] at hrow1 hsz1
  have hzv : ∀ w, (zeroValue 70).run Tryz.prog w = .ok (.agg #[.int .u8 0, .int .u8 0, .bool false, .bool false, .int .u16 0, .int .u16 0, .int .u16 0, .string ⟨#[]⟩, .string ⟨#[]⟩, .string ⟨#[]⟩, .slice none 0 0]) w := fun w => by kernel_rfl
  have hcl : ∀ ty, (Builtin.clear_ #[26] ty #[.slice (some ⟨q, (n - 1) * 11, none⟩) 1 (c - (n - 1))]).run Tryz.prog W1 = .ok (.tuple #[]) (W1.setCells q ((n - 1) * 11) ((#[.int .u8 0, .int .u8 0, .bool false, .bool false, .int .u16 0, .int .u16 0, .int .u16 0, .string ⟨#[]⟩, .string ⟨#[]⟩, .string ⟨#[]⟩, .slice none 0 0] : Array Value).toList)) :=
    fun ty => run_clear_agg W1 _ 70 ty (.agg #[.int .u8 0, .int .u8 0, .bool false, .bool false, .int .u16 0, .int .u16 0, .int .u16 0, .string ⟨#[]⟩, .string ⟨#[]⟩, .string ⟨#[]⟩, .slice none 0 0]) Tryz.underlying26 hzv (by simp [Value.cells, Value.oneCell']) q ((n - 1) * 11) _
      (fun j hj => by
        have hj' : j < 11 := hj
        rw [cell_of_row _ _ _ _ _ _ hrow1, Array.getElem?_eq_getElem (by rw [hsz1]; omega)]; rfl)
      (fun j hj => frozen_of_row _ _ _ _ _ hrow1)
  have hz11 : ((#[.int .u8 0, .int .u8 0, .bool false, .bool false, .int .u16 0, .int .u16 0, .int .u16 0, .string ⟨#[]⟩, .string ⟨#[]⟩, .string ⟨#[]⟩, .slice none 0 0] : Array Value).toList).length = 11 := rfl
  obtain ⟨zl, hzl⟩ : ∃ zl, ((#[.int .u8 0, .int .u8 0, .bool false, .bool false, .int .u16 0, .int .u16 0, .int .u16 0, .string ⟨#[]⟩, .string ⟨#[]⟩, .string ⟨#[]⟩, .slice none 0 0] : Array Value).toList) = zl := ⟨_, rfl⟩
  rw [hzl] at hcl hz11
  clear hzl
  obtain ⟨W2, hW2⟩ : ∃ x, x = W1.setCells q ((n - 1) * 11) zl := ⟨_, rfl⟩
  rw [← hW2] at hcl
  have hcg2 : Chg (fun k => k = q) w W2 := by rw [hW2]; exact hcg1.trans (putA_chg _ _ _)
  have hrow2 : W2.heap[q]? = some (.cells (putA cur1 ((n - 1) * 11) zl) 70 (0, 0)) := by rw [hW2]; exact putA_heap _ _ _ _ hrow1
  have hsz2 : (putA cur1 ((n - 1) * 11) zl).size = c * 11 := by rw [putA_size, hsz1]
  have htk : (putA cur1 ((n - 1) * 11) zl).toList.take ((n - 1) * 11) = xs.take (i * 11) ++ news := by
    apply List.ext_getElem?
    intro j
    by_cases hj : j < (n - 1) * 11
    · rw [List.getElem?_take_of_lt hj, Array.getElem?_toList, putA_get _ _ _ _ (by rw [hsz1]; rw [hz11]; omega), if_neg (by rw [hz11]; omega), ← hcur1, putA_get _ _ _ _ (by rw [hcs, hnl]; omega)]
      by_cases h2 : 0 + i * 11 ≤ j ∧ j < 0 + i * 11 + news.length
      · rw [if_pos h2, List.getElem?_append_right (by rw [List.length_take, hlen]; omega), List.length_take, hlen]
        congr 1; omega
      · rw [if_neg h2, List.getElem?_append_left (by rw [List.length_take, hlen]; omega), List.getElem?_take_of_lt (by omega), hxs j (by omega)]
    · rw [List.getElem?_eq_none (by rw [List.length_take]; omega), List.getElem?_eq_none (by rw [List.length_append, List.length_take, hlen, hnl]; omega)]
  have OWN := Lib.hid (show W2.ownsRow base 70 11 (.slice (some ⟨q, 0, none⟩) (n - 1) c) (n - 1) (xs.take (i * 11) ++ news) from
    ⟨by rw [List.length_append, List.length_take, hlen, hnl]; omega, .inr ⟨q, c, _, rfl, hbase, hrow2, by omega, hcm, hsz2, htk⟩⟩)
  have CG := Lib.hid hcg2
  have HCL := Lib.hid hcl
  have hW : Hid (W1 = w.drew.setCells q (0 + i * 11) news) := Lib.hid hW1
  have hic : i ≤ c := by omega
  have hjc : i + 1 ≤ c := by omega
  obtain ⟨m, hm⟩ : ∃ m, n - 1 = m := ⟨_, rfl⟩
  have HM := Lib.hid (show i + (n - (i + 1)) = m by omega)
  rw [hm] at OWN HCL
  have HZ := Lib.hid hz0; have HI := Lib.hid hi0; have HZ1 := Lib.hid hz1
  have he : Tryz.prog.elem 26 = 70 := by kernel_rfl
  have ht' : Tryz.prog.underlying 26 = some (.slice (Tryz.prog.elem 26)) := by rw [he]; exact Tryz.underlying26
  have hz : ∀ w', (sizeOf (Tryz.prog.elem 26)).run Tryz.prog w' = .ok 11 w' := fun w' => by
    rw [he]
    simp [sizeOf, typeInfo, hi0, hz1]
  obtain ⟨u1, hu1⟩ : ∃ u1, ∀ w', (Instr.slice 26 (.slice (some ⟨q, 0, none⟩) n c) (some (.int .i64 (i : Int))) (some (.int .i64 ((i : Int) + 1))) (some (.int .i64 (n : Int)))).run Tryz.prog w' = .ok u1 w' := by
    refine ⟨.slice (if n = i then some ⟨q, 0, none⟩ else (some (⟨q, 0, none⟩ : Addr)).map (·.add (i * 11))) (i + 1 - i) (n - i), fun w' => ?_⟩
    have h := run_slice_lhm w' 26 (some ⟨q, 0, none⟩) n c ht' .i64 .i64 .i64 (i : Int) ((i : Int) + 1) n (by omega) (by omega) (by omega) (by omega)
    rw [hz] at h
    refine h.trans ?_
    simp [Result.andThen, sliced]
  have r2 : ∀ w', (Instr.slice 26 (.slice (some ⟨q, 0, none⟩) n c) none (some (.int .i64 (i : Int))) none).run Tryz.prog w' = .ok (.slice (some ⟨q, 0, none⟩) i c) w' := fun w' => by
    rw [run_slice_h w' 26 (some ⟨q, 0, none⟩) n c ht' .i64 i (by omega) (by omega), hz]
    simp [Result.andThen, sliced, Addr.add]
  have r3 : ∀ w', (Instr.slice 26 (.slice (some ⟨q, 0, none⟩) n c) (some (.int .i64 ((i : Int) + 1))) none none).run Tryz.prog w' = .ok (.slice (some A) (n - (i + 1)) (c - (i + 1))) w' := fun w' => by
    have h := run_slice_l w' 26 (some ⟨q, 0, none⟩) n c ht' .i64 (i + 1) (by omega) (by omega)
    rw [hz] at h
    refine h.trans ?_
    rw [← hA]
    simp [Result.andThen, sliced, Addr.add]
  have r4 : ∀ w', (Instr.slice 26 (.slice (some ⟨q, 0, none⟩) (n - 1) c) (some (.int .i64 ((n - 1 : Nat) : Int))) (some (.int .i64 (n : Int))) none).run Tryz.prog w' = .ok (.slice (some ⟨q, (n - 1) * 11, none⟩) 1 (c - (n - 1))) w' := fun w' => by
    rw [run_slice_lh w' 26 (some ⟨q, 0, none⟩) (n - 1) c ht' .i64 .i64 ((n - 1 : Nat) : Int) (n : Int) (by omega) (by omega) (by omega), hz]
    simp [Result.andThen, sliced, Addr.add, show n - (n - 1) = 1 by omega, show ¬ c = n - 1 by omega]
    intro h; exact h.symm
  have hne : ((i : Int) == (i : Int) + 1) = false := by simp; omega
  have hp0 : (0 : Int) ≤ (i : Int) + 1 := by omega
  have hp1 : (i : Int) + 1 ≤ (n : Int) := by omega
  have hp2 : ((i : Int) + 1).toNat = i + 1 := by omega
  have hp3 : i + 1 ≤ n := by omega
  clear hz ht' he r3
  rw [hm] at r4 ⊢
  rw [hnews]
  clear hW1 hrow1 hcg1 hsz1 hcur1 hzv hcl hW2 hcg2 hrow2 hsz2 htk hcell hfro hxs hng hnl hnews htake hcs hheap hlen hone hbase hz0 hz2 hv4 hv2 hm hcm
  go_enter Tryz.func34, Tryz.ntmps34
  go_upto_region 5 with fail
  go_region_law (refine step_append_room rfl (.tmp 22) (.tmp 25) 26 rfl 70 i0 11 Tryz.underlying26 HI.out HZ1.out q 0 i c (by simp [Act.eval, Act.put]) A (n - (i + 1)) (c - (i + 1)) news (by simp [Act.eval, Act.put]) s1.out hsrc.out s2.out (by omega) s3.out ?_; rw [← hW.out, HM.out])
  all_goals
    have hcl := HCL.out
    go_wp2
    go_ret
    exact ⟨rfl, OWN.out, CG.out⟩
end Go.Proofs.YtjcgdenkmmgmfaaGreatDoor
namespace Go.Proofs.YtjcgdenkmmgmfaaGreatDoor
open Go.RowKit Dsc
set_option linter.unusedVariables false
set_option linter.unusedSimpArgs false
attribute [local go_sem] Oper.semAt_some
theorem flatM_take {α : Type} {f : α → List Value} {k : Nat} (hf : ∀ x, (f x).length = k) : ∀ (zs : List α) (i : Nat), (zs.flatMap f).take (i * k) = (zs.take i).flatMap f
  | [], i => by simp
  | z :: zs, 0 => by simp
  | z :: zs, i + 1 => by
    rw [List.flatMap_cons, List.take_succ_cons, List.flatMap_cons, show (i + 1) * k = (f z).length + i * k by rw [hf, Nat.succ_mul]; omega, List.take_length_add_append, flatM_take hf zs i]
theorem flatM_drop {α : Type} {f : α → List Value} {k : Nat} (hf : ∀ x, (f x).length = k) : ∀ (zs : List α) (i : Nat), (zs.flatMap f).drop (i * k) = (zs.drop i).flatMap f
  | [], i => by simp
  | z :: zs, 0 => by simp
  | z :: zs, i + 1 => by
    rw [List.flatMap_cons, List.drop_succ_cons, show (i + 1) * k = (f z).length + i * k by rw [hf, Nat.succ_mul]; omega, List.drop_length_add_append, flatM_drop hf zs i]
theorem zip_erase {α β : Type} : ∀ (l : List α) (m : List β) (i : Nat), (l.eraseIdx i).zip (m.eraseIdx i) = (l.zip m).eraseIdx i
  | [], m, i => by simp
  | a :: l, [], i => by cases i <;> simp
  | a :: l, b :: m, 0 => by simp
  | a :: l, b :: m, i + 1 => by simp [zip_erase l m i]
theorem map_erase {α β : Type} (f : α → β) : ∀ (l : List α) (i : Nat), (l.map f).eraseIdx i = (l.eraseIdx i).map f
  | [], i => by simp
  | a :: l, 0 => by simp
  | a :: l, i + 1 => by simp [map_erase f l i]
theorem flatM_erase {α : Type} {f : α → List Value} {k : Nat} (hf : ∀ x, (f x).length = k) (zs : List α) (i : Nat) : (zs.flatMap f).take (i * k) ++ (zs.flatMap f).drop ((i + 1) * k) = (zs.eraseIdx i).flatMap f := by
  rw [flatM_take hf, flatM_drop hf, ← List.flatMap_append, List.eraseIdx_eq_take_drop_succ]
theorem DirAt.ones {w : World} {p : Nat} {es : List Ent} {g : BitVec 64} {lv : Value} {hvs : List Value} (h : DirAt w p es g lv hvs) : ∀ v ∈ ((es.map (·.r)).zip hvs).flatMap entC, v.oneCell' = true := by
  intro v hv
  obtain ⟨x, hx, hv⟩ := List.mem_flatMap.1 hv
  obtain ⟨j, hj⟩ := List.mem_iff_getElem?.1 hx
  obtain ⟨h1, h2⟩ := List.getElem?_zip_eq_some.1 hj
  rw [List.getElem?_map] at h1
  obtain ⟨e, he, h3⟩ := Option.map_eq_some_iff.1 h1
  obtain ⟨-, -, h4, -⟩ := h.el j e x.2 he h2
  unfold entC at hv
  rcases List.mem_append.1 hv with hv | hv
  · revert hv; simp [Dsc.Rec.cells, Value.oneCell']; rintro (rfl | rfl | rfl | rfl | rfl | rfl | rfl | rfl | rfl | rfl) <;> rfl
  · rw [List.mem_singleton.1 hv]; exact h4
/-- An entry is taken out. -/
theorem DirAt.removed {w : World} {p q n c : Nat} {es : List Ent} {g : BitVec 64} {hvs : List Value} (h : DirAt w p es g (.slice (some ⟨q, 0, none⟩) n c) hvs) {w3 w' : World} (i : Nat) (hn : es.length = n) (hi : i < n)
    (hown : w3.ownsRow (p + 1) 70 11 (.slice (some ⟨q, 0, none⟩) (n - 1) c) (n - 1) ((((es.map (·.r)).zip hvs).flatMap entC).take (i * 11) ++ (((es.map (·.r)).zip hvs).flatMap entC).drop ((i + 1) * 11))) (hg : Chg (fun k => k = q) w w3)
    (hw' : w' = (w3.setCell ⟨p, 0, none⟩ (.slice (some ⟨q, 0, none⟩) (n - 1) c)).setCell ⟨p, 1, none⟩ (.int .u64 (uv (g + 1#64)))) : DirAt w' p (es.eraseIdx i) (g + 1#64) (.slice (some ⟨q, 0, none⟩) (n - 1) c) (hvs.eraseIdx i) ∧ Chg (DirB p (.slice (some ⟨q, 0, none⟩) n c)) w w' := by
  have hpq : p ≠ q := by have := (h.own.lt q rfl).1; omega
  have hb3 : w3.heap[p]? = some (.cells #[.slice (some ⟨q, 0, none⟩) n c, .int .u64 (uv g)] 29 (0, 0)) := hg.blk h.blk hpq
  have hcc : Chg (fun b => b = p) w3 w' := by
    rw [hw']; exact (Chg.setCell (B := fun b => b = p) (p := ⟨p, 0, none⟩) _ rfl _).trans (Chg.setCell (B := fun b => b = p) (p := ⟨p, 1, none⟩) _ rfl _)
  have hc : Chg (DirB p (.slice (some ⟨q, 0, none⟩) n c)) w w' := (hg.mono (fun k hk => .inr (by rw [hk]; rfl))).trans (hcc.mono (fun k hk => .inl hk))
  have keepH : ∀ (bs : Nat) (hv2 : Value) (m : Nat) (xs : List Value), w.ownsRow bs 9 1 hv2 m xs → w'.ownsRow bs 9 1 hv2 m xs := fun bs hv2 m xs ho =>
    own_chg ho hc (fun k hk hB => by
      rcases hB with e | e
      · subst e; exact own_apartB ho h.blk (by decide) hk
      · exact own_apartT h.own ho (by decide) k e hk)
  refine ⟨⟨?_, ?_, ?_, ?_⟩, hc⟩
  · rw [hw']; exact heap_setCell_same _ _ _ _ _ _ (heap_setCell_same _ _ _ _ _ _ hb3)
  · rw [flatM_erase (k := 11) entC_len, ← zip_erase] at hown
    have e1 : (es.map (·.r)).eraseIdx i = (es.eraseIdx i).map (·.r) := map_erase (fun e : Ent => e.r) es i
    rw [e1] at hown
    have e2 : (es.eraseIdx i).length = n - 1 := by rw [List.length_eraseIdx, if_pos (by omega), hn]
    rw [e2]
    exact own_chg hown hcc (fun k hk e => by have := (hown.lt k hk).1; omega)
  · rw [List.length_eraseIdx, List.length_eraseIdx, h.len]
  · intro j e hv h1 h2
    rw [List.getElem?_eraseIdx] at h1 h2
    by_cases hj : j < i
    · rw [if_pos hj] at h1 h2
      obtain ⟨x, y, z⟩ := h.el j e hv h1 h2
      exact ⟨x, keepH _ _ _ _ y, z⟩
    · rw [if_neg hj] at h1 h2
      obtain ⟨x, y, z⟩ := h.el (j + 1) e hv h1 h2
      exact ⟨x, keepH _ _ _ _ y, z⟩
theorem Remove_nil (cr : Array Value) (w : World) :
    Calls Tryz.prog 12 #[.pointer none, .agg cr] w fun e w' => e = .returned (.int .i64 1) ∧ Below w.heap.size w w' := by
  go_enter Tryz.func12, Tryz.ntmps12
  go_wp2
  go_ret
  exact ⟨rfl, gr_alloc _ _⟩
set_option maxRecDepth 20000 in
set_option maxHeartbeats 3200000 in
theorem Remove_no (p : Nat) (es : List Ent) (g : BitVec 64) (lv : Value) (hvs : List Value) (r : Rec) (w : World) (hd : DirAt w p es g lv hvs) (hlen : es.length ≤ 256) (hj : ix es r = -1) :
    Calls Tryz.prog 12 #[.pointer (some ⟨p, 0, none⟩), .agg r.cells.toArray] w fun e w' => e = .returned (.int .i64 9) ∧ Below w.heap.size w w' := by
  obtain ⟨W, hW⟩ : ∃ W, W = w.alloc (.cells r.cells.toArray 37) := ⟨_, rfl⟩
  have D := Lib.hid (show Below w.heap.size w W by rw [hW]; exact gr_alloc w _)
  have X := Lib.hid (show W.heap[w.heap.size]? = some (.cells r.cells.toArray 37 (0, 0)) by rw [hW]; exact heap_alloc_new w _)
  have DD := Lib.hid (hd.below D.out)
  have HW := Lib.hid hW
  have AT := Lib.hid (fun w h => at_at p es g lv hvs r (-1) w h hj hlen)
  have CRS := Lib.hid (show r.cells.toArray.size = 10 from rfl)
  obtain ⟨cr, hcr⟩ : ∃ c, r.cells.toArray = c := ⟨_, rfl⟩
  rw [hcr] at HW X AT CRS ⊢
  clear hW hd hlen hj hcr
  go_enter Tryz.func12, Tryz.ntmps12
  go_upto_region 1 with fail
  rw [← HW.out]
  go_wp2_with (first
    | (refine wpList_load_row rfl 37 (.tmp 3) rfl w.heap.size rfl 37 cr (0, 0) _ X.out Tryz.underlying37 rfl (by rw [CRS.out]; kernel_rfl) ?_)
    | (go_at_call 32; go_loud (refine (AT.out _ DD.out).mono ?_; rintro e w1 ⟨rfl, hw⟩; have D1 := Lib.hid (gr_tr D.out hw); clear hw)))
  go_ret
  exact ⟨rfl, D1.out⟩
set_option maxRecDepth 20000 in
set_option maxHeartbeats 3200000 in
theorem Remove_ok (p : Nat) (es : List Ent) (g : BitVec 64) (lv : Value) (hvs : List Value) (r : Rec) (i : Nat) (w : World) (hd : DirAt w p es g lv hvs) (hlen : es.length ≤ 256) (hj : ix es r = i) (hi : i < es.length) :
    Calls Tryz.prog 12 #[.pointer (some ⟨p, 0, none⟩), .agg r.cells.toArray] w fun e w' => e = .returned (.int .i64 0) ∧ ∃ lv', DirAt w' p (es.eraseIdx i) (g + 1#64) lv' (hvs.eraseIdx i) ∧ lv'.ownBlock = lv.ownBlock ∧ Chg (DirB p lv) w w' := by
  obtain ⟨q, c, rfl⟩ : ∃ q c, lv = .slice (some ⟨q, 0, none⟩) es.length c := by
    obtain ⟨-, h⟩ := hd.own
    rcases h with ⟨-, h⟩ | ⟨q, c, -, h, -⟩
    · omega
    · exact ⟨q, c, h⟩
  obtain ⟨W, hW⟩ : ∃ W, W = w.alloc (.cells r.cells.toArray 37) := ⟨_, rfl⟩
  have D := Lib.hid (show Below w.heap.size w W by rw [hW]; exact gr_alloc w _)
  have X := Lib.hid (show W.heap[w.heap.size]? = some (.cells r.cells.toArray 37 (0, 0)) by rw [hW]; exact heap_alloc_new w _)
  have DD := Lib.hid (hd.below D.out)
  have HW := Lib.hid hW
  obtain ⟨n, hn⟩ : ∃ n, es.length = n := ⟨_, rfl⟩
  have HN := Lib.hid hn
  have hn256 := hlen
  have AT := Lib.hid (fun w h => at_at p es g (.slice (some ⟨q, 0, none⟩) es.length c) hvs r i w h hj hlen)
  have ONE := Lib.hid hd.ones
  have CRS := Lib.hid (show r.cells.toArray.size = 10 from rfl)
  obtain ⟨cr, hcr⟩ : ∃ c, r.cells.toArray = c := ⟨_, rfl⟩
  rw [hcr] at HW X AT CRS ⊢
  rw [hn] at DD AT hi hn256 ⊢
  have DEL := Lib.hid (fun w (h : DirAt w p es g (.slice (some ⟨q, 0, none⟩) n c) hvs) => Delete_at (p + 1) q n c i (((es.map (·.r)).zip hvs).flatMap entC) w (by have := h.own; rw [HN.out] at this; exact this) hi hn256 ONE.out)
  clear hW hd hlen hj hcr hn
  go_enter Tryz.func12, Tryz.ntmps12
  go_upto_region 1 with fail
  rw [← HW.out]
  go_upto_region 6 with (first
    | (refine wpList_load_row rfl 37 (.tmp 3) rfl w.heap.size rfl 37 cr (0, 0) _ X.out Tryz.underlying37 rfl (by rw [CRS.out]; kernel_rfl) ?_)
    | (go_at_call 32; go_loud (refine (AT.out _ DD.out).mono ?_; rintro e w1 ⟨rfl, hw⟩; have D1 := Lib.hid (gr_tr D.out hw); have DD1 := Lib.hid (DD.out.below hw); clear hw)))
  have p0 : w1.cell? ⟨p, 0, none⟩ = some (.slice (some ⟨q, 0, none⟩) n c) := (cell_of_row _ _ 0 _ _ _ DD1.out.blk).trans rfl
  go_wp2_with (go_at_call 34; go_loud (refine (DEL.out _ DD1.out).mono ?_; rintro e w2 ⟨rfl, ho, hc⟩; have O2 := Lib.hid ho; have C2 := Lib.hid hc; have hb2 := hc.blk DD1.out.blk (show p ≠ q by have := (DD1.out.own.lt q rfl).1; omega); have p2 : w2.cell? ⟨p, 0, none⟩ = some (.slice (some ⟨q, 0, none⟩) n c) := (cell_of_row _ _ 0 _ _ _ hb2).trans rfl; have p3 : w2.cell? ⟨p, 1, none⟩ = some (.int .u64 (uv g)) := (cell_of_row _ _ 1 _ _ _ hb2).trans rfl; have z2 := frozen_of_row _ _ 0 _ _ hb2; have z3 := frozen_of_row _ _ 1 _ _ hb2; clear ho hc hb2 p0))
  go_ret
  have hx := DirAt.removed (w' := (w2.setCell ⟨p, 0, none⟩ (.slice (some ⟨q, 0, none⟩) (n - 1) c)).setCell ⟨p, 1, none⟩ (.int .u64 (uv (g + 1#64)))) DD1.out i HN.out hi O2.out C2.out rfl
  exact ⟨rfl, _, hx.1, rfl, (Chg.of_below (B := DirB p (.slice (some ⟨q, 0, none⟩) n c)) D1.out).trans hx.2⟩
namespace Dsc
/-- What Log returns. -/
def lgE (es : List Ent) (host : List (BitVec 8)) : Int := if nmOk host then logE (seenL es host) else 2
def lgB (es : List Ent) (g : BitVec 64) (host : List (BitVec 8)) : List (BitVec 8) := if nmOk host then logR g (seenL es host) else []
theorem seen_mem {es : List Ent} {host : List (BitVec 8)} {r : Rec} (h : r ∈ seenL es host) : ∃ e ∈ es, e.r = r := by
  unfold seenL at h
  obtain ⟨e, he, rfl⟩ := List.mem_map.1 h
  exact ⟨e, (List.mem_filter.1 he).1, rfl⟩
end Dsc
theorem DirAt.fits {w : World} {p : Nat} {es : List Ent} {g : BitVec 64} {lv : Value} {hvs : List Value} (h : DirAt w p es g lv hvs) : ∀ e ∈ es, e.r.Fit := by
  intro e he
  obtain ⟨j, hj⟩ := List.mem_iff_getElem?.1 he
  obtain ⟨hv, h1, -⟩ := h.get j e hj
  exact (h.el j e hv hj h1).1
set_option maxRecDepth 20000 in
set_option maxHeartbeats 3200000 in
theorem Log_at (p : Nat) (es : List Ent) (g : BitVec 64) (lv : Value) (hvs : List Value) (host : List (BitVec 8)) (E : Int) (B : List (BitVec 8)) (w : World) (hd : DirAt w p es g lv hvs) (hlen : es.length ≤ 256) (hl : host.length ≤ 9223372036854775807) (hE : lgE es host = E) (hB : lgB es g host = B) :
    Calls Tryz.prog 9 #[.pointer (some ⟨p, 0, none⟩), .string (strOf host)] w fun e w' => ∃ u, e = .returned (.tuple #[u, .int .i64 E]) ∧ BytesV w' u B ∧ Below w.heap.size w w' := by
  obtain ⟨b, hb⟩ : ∃ b, nmOk host = b := ⟨_, rfl⟩
  obtain ⟨L, hL⟩ : ∃ L, seenR es host = L := ⟨_, rfl⟩
  obtain ⟨F, hF⟩ : ∃ F, seenE host = F := ⟨_, rfl⟩
  have SEE := Lib.hid (fun w h => Seen_at p es g lv hvs host F L w h hlen hl hF hL)
  obtain ⟨st, hst⟩ : ∃ st, strOf host = st := ⟨_, rfl⟩
  rw [hst] at SEE ⊢
  have DD := Lib.hid hd
  cases b
  · have e1 : F = 2 := by rw [← hF]; unfold seenE; rw [hb]; rfl
    have e2 : E = 2 := by rw [← hE]; unfold lgE; rw [hb]; rfl
    have e3 : B = [] := by rw [← hB]; unfold lgB; rw [hb]; rfl
    subst e1; subst e2; subst e3
    clear hd hlen hl hE hB hb hL hF hst
    go_enter Tryz.func9, Tryz.ntmps9
    go_wp2_with (go_at_call 8; go_loud (refine (SEE.out _ DD.out).mono ?_; rintro e w1 ⟨u, rfl, ho, hw⟩; have D1 := Lib.hid hw; clear ho hw))
    go_ret2
    exact ⟨_, rfl, BytesV.of_own (World.ownsRow_nil _ 0 5 _), D1.out⟩
  · have e1 : F = 0 := by rw [← hF]; unfold seenE; rw [hb]; rfl
    have eL : L = seenL es host := by rw [← hL]; unfold seenR; rw [hb]; rfl
    have e2 : logE L = E := by rw [← hE, eL]; unfold lgE; rw [hb]; rfl
    have e3 : logR g L = B := by rw [← hB, eL]; unfold lgB; rw [hb]; rfl
    subst e1
    have ENC := Lib.hid (fun v w h => Encode_at g v L E B w h (fun r hr => by rw [eL] at hr; obtain ⟨e, he, rfl⟩ := seen_mem hr; exact hd.fits e he) e2 e3)
    clear hd hlen hl hE hB hb hL hF hst eL e2 e3
    go_enter Tryz.func9, Tryz.ntmps9
    go_upto_region 4 with (go_at_call 8; go_loud (refine (SEE.out _ DD.out).mono ?_; rintro e w1 ⟨u, rfl, ho, hw⟩; have S1 := Lib.hid (SliceV.of_own (f := Dsc.Rec.cells) (k := 10) (by decide) (fun _ => rfl) (xs := L) ho); obtain ⟨a1, c1, rfl⟩ := own_shape ho; have D1 := Lib.hid hw; have DD1 := Lib.hid (DD.out.below hw); clear ho hw))
    have p1 : w1.cell? ⟨p, 1, none⟩ = some (.int .u64 (uv g)) := (cell_of_row _ _ 1 _ _ _ DD1.out.blk).trans rfl
    go_wp2_with (go_at_call 17; go_loud (refine (ENC.out _ _ S1.out).mono ?_; rintro e w2 ⟨u2, rfl, ho, hw⟩; have U2 := Lib.hid (BytesV.of_own ho); have D2 := Lib.hid (gr_tr D1.out hw); clear ho hw))
    go_ret2
    exact ⟨_, rfl, U2.out, D2.out⟩
end Go.Proofs.YtjcgdenkmmgmfaaGreatDoor
namespace Go.Proofs.YtjcgdenkmmgmfaaGreatDoor
open Go.RowKit Go.Shelf Dsc
set_option linter.unusedVariables false
set_option linter.unusedSimpArgs false
attribute [local go_sem] Oper.semAt_some
namespace Dsc
def Rec.R (w : World) (x : Rec) : Prop := True ∧ True ∧ True ∧ True ∧ True ∧ True ∧ True ∧ x.sv.length ≤ 9223372036854775807 ∧ x.sb.length ≤ 9223372036854775807 ∧ x.ad.length ≤ 9223372036854775807
theorem Rec.cells_len : ∀ y, (Rec.cells y).length = 10 := fun _ => rfl
set_option maxRecDepth 100000 in
theorem opens_Rec (w : World) : Opens Tryz.prog w 37 Rec Rec.cells (Rec.R w) := by
  intro H enc sp held fuel cs x h
  obtain ⟨hl, hfs⟩ := trod_fields Tryz.underlying37 h
  rw [show Tryz.prog.cellsOf 37 = 10 by kernel_rfl] at hl
  obtain ⟨y0, a0, r0⟩ := opens_field hfs 0 _ rfl 0 1 rfl (by kernel_rfl) (opens_u8 Tryz.underlying5)
  obtain ⟨y1, a1, r1⟩ := opens_field hfs 1 _ rfl 1 1 rfl (by kernel_rfl) (opens_u8 Tryz.underlying5)
  obtain ⟨y2, a2, r2⟩ := opens_field hfs 2 _ rfl 2 1 rfl (by kernel_rfl) (opens_bool Tryz.underlying4)
  obtain ⟨y3, a3, r3⟩ := opens_field hfs 3 _ rfl 3 1 rfl (by kernel_rfl) (opens_bool Tryz.underlying4)
  obtain ⟨y4, a4, r4⟩ := opens_field hfs 4 _ rfl 4 1 rfl (by kernel_rfl) (opens_u16 Tryz.underlying35)
  obtain ⟨y5, a5, r5⟩ := opens_field hfs 5 _ rfl 5 1 rfl (by kernel_rfl) (opens_u16 Tryz.underlying35)
  obtain ⟨y6, a6, r6⟩ := opens_field hfs 6 _ rfl 6 1 rfl (by kernel_rfl) (opens_u16 Tryz.underlying35)
  obtain ⟨y7, a7, r7⟩ := opens_field hfs 7 _ rfl 7 1 rfl (by kernel_rfl) (opens_str Tryz.underlying9)
  obtain ⟨y8, a8, r8⟩ := opens_field hfs 8 _ rfl 8 1 rfl (by kernel_rfl) (opens_str Tryz.underlying9)
  obtain ⟨y9, a9, r9⟩ := opens_field hfs 9 _ rfl 9 1 rfl (by kernel_rfl) (opens_str Tryz.underlying9)
  have e := (glue a0 (by decide : 0 + 1 = 1) (glue a1 (by decide : 1 + 1 = 2) (glue a2 (by decide : 2 + 1 = 3) (glue a3 (by decide : 3 + 1 = 4) (glue a4 (by decide : 4 + 1 = 5) (glue a5 (by decide : 5 + 1 = 6) (glue a6 (by decide : 6 + 1 = 7) (glue a7 (by decide : 7 + 1 = 8) (glue a8 (by decide : 8 + 1 = 9) (glue a9 (by decide : 9 + 1 = 10) (glue_end hl)))))))))))
  rw [List.drop_zero] at e
  exact ⟨⟨y0, y1, y2, y3, y4, y5, y6, y7, y8, y9⟩, e, ⟨r0, r1, r2, r3, r4, r5, r6, r7, r8, r9⟩⟩
structure DLog where
  g : BitVec 64
  rs : Value
def DLog.cells (x : DLog) : List Value := [.int .u64 (uv x.g), x.rs]
def DLog.R (w : World) (x : DLog) : Prop := True ∧ (∃ xs, SliceV w Rec.cells x.rs xs ∧ ∀ y ∈ xs, (Rec.R w) y)
theorem DLog.cells_len : ∀ y, (DLog.cells y).length = 2 := fun _ => rfl
set_option maxRecDepth 100000 in
theorem opens_DLog (w : World) : Opens Tryz.prog w 60 DLog DLog.cells (DLog.R w) := by
  intro H enc sp held fuel cs x h
  obtain ⟨hl, hfs⟩ := trod_fields Tryz.underlying60 h
  rw [show Tryz.prog.cellsOf 60 = 2 by kernel_rfl] at hl
  obtain ⟨y0, a0, r0⟩ := opens_field hfs 0 _ rfl 0 1 rfl (by kernel_rfl) (opens_u64 Tryz.underlying27)
  obtain ⟨y1, a1, r1⟩ := opens_field hfs 1 _ rfl 1 1 rfl (by kernel_rfl) ((opens_slice (k := 10) Tryz.underlying41 (by kernel_rfl) (by decide) Rec.cells_len ((opens_Rec w))))
  have e := (glue a0 (by decide : 0 + 1 = 1) (glue a1 (by decide : 1 + 1 = 2) (glue_end hl)))
  rw [List.drop_zero] at e
  exact ⟨⟨y0, y1⟩, e, ⟨r0, r1⟩⟩
theorem Rec.R.fit {w : World} {r : Rec} (h : Rec.R w r) : r.Fit := ⟨h.2.2.2.2.2.2.2.1, h.2.2.2.2.2.2.2.2.1, h.2.2.2.2.2.2.2.2.2⟩
end Dsc
end Go.Proofs.YtjcgdenkmmgmfaaGreatDoor
namespace Go.Proofs.YtjcgdenkmmgmfaaGreatDoor
open Go.RowKit Dsc
set_option linter.unusedVariables false
set_option linter.unusedSimpArgs false
attribute [local go_sem] Oper.semAt_some
namespace Dsc
def addS (es : List Ent) (r : Rec) (hs : List (List (BitVec 8))) : List Ent := if addE es r hs = 0 then es ++ [⟨r, hs⟩] else es
def addG (es : List Ent) (g : BitVec 64) (r : Rec) (hs : List (List (BitVec 8))) : BitVec 64 := if addE es r hs = 0 then g + 1#64 else g
def remE (es : List Ent) (r : Rec) : Int := if ix es r = -1 then 9 else 0
def remS (es : List Ent) (r : Rec) : List Ent := if ix es r = -1 then es else es.eraseIdx (ix es r).toNat
def remG (es : List Ent) (g : BitVec 64) (r : Rec) : BitVec 64 := if ix es r = -1 then g else g + 1#64
theorem ix_cases (es : List Ent) (r : Rec) : ix es r = -1 ∨ ∃ i : Nat, ix es r = i ∧ i < es.length := by
  unfold ix
  split
  · rename_i h; exact .inr ⟨_, rfl, h⟩
  · exact .inl rfl
end Dsc
theorem Add_any (p : Nat) (es : List Ent) (g : BitVec 64) (lv : Value) (hvs : List Value) (r : Rec) (v : Value) (hs : List (List (BitVec 8))) (w : World) (hd : DirAt w p es g lv hvs) (hes : es.length ≤ 256) (hfit : r.Fit) (hv : SliceV w strC v hs) (hl : ∀ s ∈ hs, s.length ≤ 9223372036854775807) :
    Calls Tryz.prog 11 #[.pointer (some ⟨p, 0, none⟩), .agg r.cells.toArray, v] w fun e w' => e = .returned (.int .i64 (addE es r hs)) ∧ ∃ lv' hvs', DirAt w' p (addS es r hs) (addG es g r hs) lv' hvs' ∧ (lv'.ownBlock = lv.ownBlock ∨ ∃ b, lv'.ownBlock = some b ∧ w.heap.size ≤ b) ∧ Chg (DirB p lv) w w' := by
  by_cases h : addE es r hs = 0
  · refine (Add_ok p es g lv hvs r v hs w hd hes hfit hv hl h).mono ?_
    rintro e w' ⟨rfl, lv', hv', h1, h2, h3, h4⟩
    refine ⟨by rw [h], lv', hvs ++ [hv'], ?_, h2, h4⟩
    unfold addS addG
    rw [if_pos h, if_pos h]
    exact h1
  · refine (Add_no p es g lv hvs r v hs w hd hes hfit hv hl _ rfl h).mono ?_
    rintro e w' ⟨rfl, hb⟩
    refine ⟨rfl, lv, hvs, ?_, .inl rfl, Chg.of_below hb⟩
    unfold addS addG
    rw [if_neg h, if_neg h]
    exact hd.below hb
theorem Remove_any (p : Nat) (es : List Ent) (g : BitVec 64) (lv : Value) (hvs : List Value) (r : Rec) (w : World) (hd : DirAt w p es g lv hvs) (hlen : es.length ≤ 256) :
    Calls Tryz.prog 12 #[.pointer (some ⟨p, 0, none⟩), .agg r.cells.toArray] w fun e w' => e = .returned (.int .i64 (remE es r)) ∧ ∃ lv' hvs', DirAt w' p (remS es r) (remG es g r) lv' hvs' ∧ lv'.ownBlock = lv.ownBlock ∧ Chg (DirB p lv) w w' := by
  rcases ix_cases es r with h | ⟨i, h, hi⟩
  · refine (Remove_no p es g lv hvs r w hd hlen h).mono ?_
    rintro e w' ⟨rfl, hb⟩
    refine ⟨by unfold remE; rw [if_pos h], lv, hvs, ?_, rfl, Chg.of_below hb⟩
    unfold remS remG
    rw [if_pos h, if_pos h]
    exact hd.below hb
  · have hne : ¬ ix es r = -1 := by omega
    refine (Remove_ok p es g lv hvs r i w hd hlen h hi).mono ?_
    rintro e w' ⟨rfl, lv', h1, h2, h3⟩
    refine ⟨by unfold remE; rw [if_neg hne], lv', hvs.eraseIdx i, ?_, h2, h3⟩
    unfold remS remG
    rw [if_neg hne, if_neg hne, h]
    exact h1
/-- A directory that a law has made. -/
def DirS (w0 : World) (p : Nat) (es : List Ent) (g : BitVec 64) (w : World) : Prop := ∃ lv hvs, DirAt w p es g lv hvs ∧ es.length ≤ 256 ∧ (∀ e ∈ es, e.r.ok = true) ∧ w0.heap.size ≤ p ∧ Below w0.heap.size w0 w
theorem DirS.base {w0 w : World} {p : Nat} {es : List Ent} {g : BitVec 64} (h : DirS w0 p es g w) : Below w0.heap.size w0 w := by obtain ⟨_, _, _, _, _, _, h⟩ := h; exact h
theorem DirS.below {w0 w w' : World} {p : Nat} {es : List Ent} {g : BitVec 64} (h : DirS w0 p es g w) (hb : Below w.heap.size w w') : DirS w0 p es g w' := by
  obtain ⟨lv, hvs, h1, h2, h3, h4, h5⟩ := h
  exact ⟨lv, hvs, h1.below hb, h2, h3, h4, gr_tr h5 hb⟩
theorem DirS.chg {w0 w w' : World} {p : Nat} {es : List Ent} {lv : Value} {hvs : List Value} {g : BitVec 64} (h1 : DirAt w p es g lv hvs) (h4 : w0.heap.size ≤ p) (h5 : Below w0.heap.size w0 w) (hc : Chg (DirB p lv) w w') : Below w0.heap.size w0 w' :=
  h5.trans (hc.below (fun k hk => by
    rcases hk with e | e
    · omega
    · have := (h1.own.lt k e).1; omega) h5.size)
theorem DirS.le {w0 w : World} {p : Nat} {es : List Ent} {g : BitVec 64} (h : DirS w0 p es g w) : es.length ≤ 256 := by obtain ⟨_, _, _, h, _⟩ := h; exact h
theorem DirS.oks {w0 w : World} {p : Nat} {es : List Ent} {g : BitVec 64} (h : DirS w0 p es g w) : ∀ e ∈ es, e.r.ok = true := by obtain ⟨_, _, _, _, h, _⟩ := h; exact h
theorem addS_ok {es : List Ent} {r : Rec} {hs : List (List (BitVec 8))} (h1 : es.length ≤ 256) (h2 : ∀ e ∈ es, e.r.ok = true) : (addS es r hs).length ≤ 256 ∧ ∀ e ∈ addS es r hs, e.r.ok = true := by
  unfold addS
  split
  · rename_i h
    obtain ⟨a1, a2, a3, a4, a5⟩ := addE_ok h
    refine ⟨by rw [List.length_append]; simp; omega, fun e he => ?_⟩
    rcases List.mem_append.1 he with he | he
    · exact h2 e he
    · rw [List.mem_singleton.1 he]; exact a1
  · exact ⟨h1, h2⟩
theorem remS_ok {es : List Ent} {r : Rec} (h1 : es.length ≤ 256) (h2 : ∀ e ∈ es, e.r.ok = true) : (remS es r).length ≤ 256 ∧ ∀ e ∈ remS es r, e.r.ok = true := by
  unfold remS
  split
  · exact ⟨h1, h2⟩
  · exact ⟨Nat.le_trans (List.eraseIdx_sublist _ _).length_le h1, fun e he => h2 e ((List.eraseIdx_sublist _ _).mem he)⟩
theorem Add_s (w0 : World) (p : Nat) (es : List Ent) (g : BitVec 64) (r : Rec) (v : Value) (hs : List (List (BitVec 8))) (w : World) (h : DirS w0 p es g w) (hfit : r.Fit) (hv : SliceV w strC v hs) (hl : ∀ s ∈ hs, s.length ≤ 9223372036854775807) :
    Calls Tryz.prog 11 #[.pointer (some ⟨p, 0, none⟩), .agg r.cells.toArray, v] w fun e w' => e = .returned (.int .i64 (addE es r hs)) ∧ DirS w0 p (addS es r hs) (addG es g r hs) w' := by
  obtain ⟨lv, hvs, h1, h2, h3, h4, h5⟩ := h
  refine (Add_any p es g lv hvs r v hs w h1 h2 hfit hv hl).mono ?_
  rintro e w' ⟨rfl, lv', hvs', a1, -, a3⟩
  exact ⟨rfl, lv', hvs', a1, (addS_ok h2 h3).1, (addS_ok h2 h3).2, h4, DirS.chg h1 h4 h5 a3⟩
theorem Remove_s (w0 : World) (p : Nat) (es : List Ent) (g : BitVec 64) (r : Rec) (w : World) (h : DirS w0 p es g w) :
    Calls Tryz.prog 12 #[.pointer (some ⟨p, 0, none⟩), .agg r.cells.toArray] w fun e w' => e = .returned (.int .i64 (remE es r)) ∧ DirS w0 p (remS es r) (remG es g r) w' := by
  obtain ⟨lv, hvs, h1, h2, h3, h4, h5⟩ := h
  refine (Remove_any p es g lv hvs r w h1 h2).mono ?_
  rintro e w' ⟨rfl, lv', hvs', a1, -, a3⟩
  exact ⟨rfl, lv', hvs', a1, (remS_ok h2 h3).1, (remS_ok h2 h3).2, h4, DirS.chg h1 h4 h5 a3⟩
theorem Seen_s (w0 : World) (p : Nat) (es : List Ent) (g : BitVec 64) (host : List (BitVec 8)) (E : Int) (L : List Rec) (w : World) (h : DirS w0 p es g w) (hl : host.length ≤ 9223372036854775807) (hE : seenE host = E) (hL : seenR es host = L) :
    Calls Tryz.prog 8 #[.pointer (some ⟨p, 0, none⟩), .string (strOf host)] w fun e w' => ∃ a c, e = .returned (.tuple #[.slice a L.length c, .int .i64 E]) ∧ SliceV w' Dsc.Rec.cells (.slice a L.length c) L ∧ DirS w0 p es g w' ∧ Below w.heap.size w w' := by
  obtain ⟨lv, hvs, h1, h2, h3, h4, h5⟩ := h
  refine (Seen_at p es g lv hvs host E L w h1 h2 hl hE hL).mono ?_
  rintro e w' ⟨u, rfl, ho, hb⟩
  have hs := SliceV.of_own (f := Dsc.Rec.cells) (k := 10) (by decide) (fun _ => rfl) (xs := L) ho
  obtain ⟨a, c, rfl⟩ := own_shape ho
  exact ⟨a, c, rfl, hs, ⟨lv, hvs, h1.below hb, h2, h3, h4, gr_tr h5 hb⟩, hb⟩
theorem Log_s (w0 : World) (p : Nat) (es : List Ent) (g : BitVec 64) (host : List (BitVec 8)) (E : Int) (B : List (BitVec 8)) (w : World) (h : DirS w0 p es g w) (hl : host.length ≤ 9223372036854775807) (hE : lgE es host = E) (hB : lgB es g host = B) :
    Calls Tryz.prog 9 #[.pointer (some ⟨p, 0, none⟩), .string (strOf host)] w fun e w' => ∃ u, e = .returned (.tuple #[u, .int .i64 E]) ∧ BytesV w' u B ∧ DirS w0 p es g w' ∧ Below w.heap.size w w' := by
  obtain ⟨lv, hvs, h1, h2, h3, h4, h5⟩ := h
  refine (Log_at p es g lv hvs host E B w h1 h2 hl hE hB).mono ?_
  rintro e w' ⟨u, rfl, ho, hb⟩
  exact ⟨u, rfl, ho, ⟨lv, hvs, h1.below hb, h2, h3, h4, gr_tr h5 hb⟩, hb⟩
theorem Gen_s (w0 : World) (p : Nat) (es : List Ent) (g : BitVec 64) (w : World) (h : DirS w0 p es g w) :
    Calls Tryz.prog 13 #[.pointer (some ⟨p, 0, none⟩)] w fun e w' => e = .returned (.int .u64 (uv g)) ∧ w = w' := by
  obtain ⟨lv, hvs, h1, -⟩ := h
  exact Gen_at p es g lv hvs w h1
theorem DirS.new {w0 w W : World} (hb : Below w0.heap.size w0 w) (hW : W = w.alloc (.cells #[.slice none 0 0, .int .u64 0] 29)) : DirS w0 w.heap.size [] 0#64 W :=
  ⟨.slice none 0 0, [], ⟨by rw [hW]; exact heap_alloc_new w _, World.ownsRow_nil _ _ _ _, rfl, by intro i e hv h; simp at h⟩, by simp, by simp, hb.size, by rw [hW]; exact gr_tr hb (gr_alloc w _)⟩
namespace Dsc
structure Stp where
  kd : Int
  r : Rec
  hv : Value
  h : List (BitVec 8)
def Stp.cells (x : Stp) : List Value := [.int .i64 x.kd] ++ ((Rec.cells x.r) ++ ([x.hv] ++ ([.string (strOf x.h)] ++ ([]))))
def Stp.R (w : World) (x : Stp) : Prop := I64 x.kd ∧ Rec.R w x.r ∧ (∃ xs, SliceV w (fun y : List (BitVec 8) => [.string (strOf y)]) x.hv xs ∧ ∀ y ∈ xs, (fun y : List (BitVec 8) => y.length ≤ 9223372036854775807) y) ∧ x.h.length ≤ 9223372036854775807
theorem Stp.cells_len : ∀ y, (Stp.cells y).length = 13 := fun _ => rfl
set_option maxRecDepth 100000 in
theorem opens_Stp (w : World) : Opens Tryz.prog w 40 Stp Stp.cells (Stp.R w) := by
  intro H enc sp held fuel cs x h
  obtain ⟨hl, hfs⟩ := trod_fields Tryz.underlying40 h
  rw [show Tryz.prog.cellsOf 40 = 13 by kernel_rfl] at hl
  obtain ⟨y0, a0, r0⟩ := opens_field hfs 0 _ rfl 0 1 rfl (by kernel_rfl) (opens_i64 Tryz.underlying3)
  obtain ⟨y1, a1, r1⟩ := opens_field hfs 1 _ rfl 1 10 rfl (by kernel_rfl) ((opens_Rec w))
  obtain ⟨y2, a2, r2⟩ := opens_field hfs 2 _ rfl 11 1 rfl (by kernel_rfl) ((opens_slice (k := 1) Tryz.underlying38 (by kernel_rfl) (by decide) (fun _ => rfl) (opens_str Tryz.underlying9)))
  obtain ⟨y3, a3, r3⟩ := opens_field hfs 3 _ rfl 12 1 rfl (by kernel_rfl) (opens_str Tryz.underlying9)
  have e := (glue a0 (by decide : 0 + 1 = 1) (glue a1 (by decide : 1 + 10 = 11) (glue a2 (by decide : 11 + 1 = 12) (glue a3 (by decide : 12 + 1 = 13) (glue_end hl)))))
  rw [List.drop_zero] at e
  exact ⟨⟨y0, y1, y2, y3⟩, e, ⟨r0, r1, r2, r3⟩⟩
end Dsc
theorem rng_sub {w : World} {g o : Nat} {a b c : List Value} (h : w.rangeAt g o (a ++ (b ++ c))) : w.rangeAt g (o + a.length) b := fun j v hj => by
  have h2 := h (a.length + j) v (by
    rw [List.getElem?_append_right (by omega), Nat.add_sub_cancel_left, List.getElem?_append_left (List.getElem?_eq_some_iff.1 hj).1, hj])
  rw [Nat.add_assoc]; exact h2
/-- The cells of a step in memory. -/
theorem stp_at {w : World} {v : Value} {xs : List Stp} (h : SliceV w Stp.cells v xs) (k : Nat) (x : Stp) (hk : xs[k]? = some x) :
    ∃ g o c, v = .slice (some ⟨g, o, none⟩) xs.length c ∧ w.cell? ⟨g, o + k * 13, none⟩ = some (.int .i64 x.kd) ∧ w.rangeAt g (o + k * 13 + 1) x.r.cells ∧ w.cell? ⟨g, o + k * 13 + 11, none⟩ = some x.hv ∧ w.cell? ⟨g, o + k * 13 + 12, none⟩ = some (.string (strOf x.h)) := by
  obtain ⟨g, o, c, e, hr⟩ := SliceV.rng Stp.cells_len h k x hk (by decide)
  exact ⟨g, o, c, e, hr 0 _ rfl, rng_sub (a := [.int .i64 x.kd]) hr, hr 11 _ rfl, hr 12 _ rfl⟩
end Go.Proofs.YtjcgdenkmmgmfaaGreatDoor
namespace Go.Proofs.YtjcgdenkmmgmfaaGreatDoor
open Go.RowKit Dsc
set_option linter.unusedVariables false
set_option linter.unusedSimpArgs false
/-- Blocks of other types than a directory's are as they were. -/
def KeptT (w w' : World) : Prop := ∀ (k : Nat) (cs : Array Value) (t : TypeId) (fr : Nat × Nat), w.heap[k]? = some (.cells cs t fr) → t ≠ 70 → t ≠ 29 → w'.heap[k]? = some (.cells cs t fr)
theorem KeptT.refl (w : World) : KeptT w w := fun _ _ _ _ h _ _ => h
theorem KeptT.trans {a b c : World} (h : KeptT a b) (k : KeptT b c) : KeptT a c := fun x cs t fr hx h1 h2 => k x cs t fr (h x cs t fr hx h1 h2) h1 h2
theorem KeptT.of_below {w w' : World} (h : Below w.heap.size w w') : KeptT w w' := fun x cs t fr hx _ _ => blk_below hx h
theorem KeptT.of_chg {w w' : World} {p : Nat} {es : List Ent} {g : BitVec 64} {lv : Value} {hvs : List Value} (hd : DirAt w p es g lv hvs) (hc : Chg (DirB p lv) w w') : KeptT w w' := fun k cs t fr hk h1 h2 =>
  hc.blk hk (fun hB => by
    rcases hB with e | e
    · subst e
      rw [hd.blk] at hk
      injection hk with hk; injection hk with _ hk _
      exact h2 hk.symm
    · exact own_apartB hd.own hk (fun e => h1 e.symm) e)
theorem own_kt {w w' : World} {b : Nat} {e : TypeId} {s : Nat} {v : Value} {n : Nat} {xs : List Value} (h : w.ownsRow b e s v n xs) (hk : KeptT w w') (h1 : e ≠ 70) (h2 : e ≠ 29) : w'.ownsRow b e s v n xs := by
  obtain ⟨h0, h⟩ := h
  refine ⟨h0, h.imp_right ?_⟩
  rintro ⟨g, cap, cur, hv, hb, hh, r⟩
  exact ⟨g, cap, cur, hv, hb, hk g cur e (0, 0) hh h1 h2, r⟩
theorem Add_k (w0 : World) (p : Nat) (es : List Ent) (g : BitVec 64) (r : Rec) (v : Value) (hs : List (List (BitVec 8))) (w : World) (h : DirS w0 p es g w) (hfit : r.Fit) (hv : SliceV w strC v hs) (hl : ∀ s ∈ hs, s.length ≤ 9223372036854775807) :
    Calls Tryz.prog 11 #[.pointer (some ⟨p, 0, none⟩), .agg r.cells.toArray, v] w fun e w' => e = .returned (.int .i64 (addE es r hs)) ∧ DirS w0 p (addS es r hs) (addG es g r hs) w' ∧ KeptT w w' := by
  obtain ⟨lv, hvs, h1, h2, h3, h4, h5⟩ := h
  refine (Add_any p es g lv hvs r v hs w h1 h2 hfit hv hl).mono ?_
  rintro e w' ⟨rfl, lv', hvs', a1, -, a3⟩
  exact ⟨rfl, ⟨lv', hvs', a1, (addS_ok h2 h3).1, (addS_ok h2 h3).2, h4, DirS.chg h1 h4 h5 a3⟩, KeptT.of_chg h1 a3⟩
theorem Remove_k (w0 : World) (p : Nat) (es : List Ent) (g : BitVec 64) (r : Rec) (w : World) (h : DirS w0 p es g w) :
    Calls Tryz.prog 12 #[.pointer (some ⟨p, 0, none⟩), .agg r.cells.toArray] w fun e w' => e = .returned (.int .i64 (remE es r)) ∧ DirS w0 p (remS es r) (remG es g r) w' ∧ KeptT w w' := by
  obtain ⟨lv, hvs, h1, h2, h3, h4, h5⟩ := h
  refine (Remove_any p es g lv hvs r w h1 h2).mono ?_
  rintro e w' ⟨rfl, lv', hvs', a1, -, a3⟩
  exact ⟨rfl, ⟨lv', hvs', a1, (remS_ok h2 h3).1, (remS_ok h2 h3).2, h4, DirS.chg h1 h4 h5 a3⟩, KeptT.of_chg h1 a3⟩
/-- A change in a block of another type leaves a directory. -/
theorem DirS.set {w0 w w' : World} {p q : Nat} {es : List Ent} {g : BitVec 64} {cs : Array Value} {t : TypeId} {fr : Nat × Nat} (h : DirS w0 p es g w) (hq : w.heap[q]? = some (.cells cs t fr)) (h1 : t ≠ 70) (h2 : t ≠ 29) (h3 : t ≠ 9) (hb : w0.heap.size ≤ q) (hc : Chg (fun k => k = q) w w') : DirS w0 p es g w' := by
  obtain ⟨lv, hvs, a1, a2, a3, a4, a5⟩ := h
  refine ⟨lv, hvs, a1.chg (mv := lv) (q := q) hc ?_ ?_ ?_, a2, a3, a4, a5.trans (hc.below (fun k e => by omega) a5.size)⟩
  · intro e
    have e' : p = q := e
    subst e'
    rw [a1.blk] at hq
    injection hq with hq; injection hq with _ hq _
    exact h2 hq.symm
  · intro k hk e
    have e' : k = q := e
    subst e'
    exact own_apartB a1.own hq (fun e => h1 e.symm) hk
  · intro i e hv x y k hk e'
    have e'' : k = q := e'
    subst e''
    exact own_apartB (a1.el i e hv x y).2.1 hq (fun e => h3 e.symm) hk
theorem wpList_load_midG {P : Program} {ops : Array Oper} {rest : List Oper} {o : Oper} {a : Act} {w : World} {Q : Exit → Act → World → Prop} (hw : Region.wanted o (yielded ops a.tmps) = true) (ty : TypeId) (x : Operand) (ho : o.op = .load ty x)
    (b off : Nat) (hx : a.eval x = .pointer (some ⟨b, off, none⟩)) (cs : List Value) (d : TypeDesc) (hc : w.rangeAt b off cs)
    (hu : P.underlying ty = some d) (hd : d.isRow = true) (hi : (P.info? ty).map (·.size) = some cs.length)
    (h : wpList P ops Q rest (a.put o.dst (.agg cs.toArray)) w) : wpList P ops Q (o :: rest) a w :=
  wpList_step fun K hK => by rw [if_pos hw]; exact wp_load_mid ty x ho b off hx cs d hc hu hd hi (hK _ _ h)
theorem one_str (w : World) (s : List (BitVec 8)) : SliceV (w.alloc (.cells #[.string (strOf s)] 9)) strC (.slice (some ⟨w.heap.size, 0, none⟩) 1 1) [s] := by
  exact ⟨some ⟨w.heap.size, 0, none⟩, 1, rfl, by simp, by simp, by simp, Row.lit w #[.string (strOf s)] 9 (0, 0)⟩
namespace Dsc
theorem seen_le (es : List Ent) (host : List (BitVec 8)) : (seenL es host).length ≤ es.length := by
  unfold seenL; rw [List.length_map]; exact List.length_filter_le _ _
theorem log_fine {es : List Ent} {host : List (BitVec 8)} (h1 : es.length ≤ 256) (h2 : ∀ e ∈ es, e.r.ok = true) (hn : nmOk host = true) : lgE es host = 0 := by
  unfold lgE
  rw [if_pos hn]
  unfold logE
  have := seen_le es host
  rw [if_neg (by omega), if_pos]
  rw [List.all_eq_true]
  intro r hr
  obtain ⟨e, he, rfl⟩ := seen_mem hr
  exact h2 e he
end Dsc
end Go.Proofs.YtjcgdenkmmgmfaaGreatDoor
namespace Go.Proofs.YtjcgdenkmmgmfaaGreatDoor
open Go.RowKit Dsc
set_option linter.unusedVariables false
set_option linter.unusedSimpArgs false
attribute [local go_sem] Oper.semAt_some
/-- The reference's entries lie in the slice lv. -/
structure RefAt (w : World) (es : List Ent) (lv : Value) (hvs : List Value) : Prop where
  own : w.ownsRow 0 81 11 lv es.length (((es.map (·.r)).zip hvs).flatMap entC)
  len : hvs.length = es.length
  el : ∀ (i : Nat) (e : Ent) (hv : Value), es[i]? = some e → hvs[i]? = some hv → e.r.Fit ∧ HostsV w hv e.hs ∧ hv.oneCell' = true ∧ (∀ s ∈ e.hs, s.length ≤ 9223372036854775807) ∧ e.hs.length ≤ 256
theorem RefAt.below {w w' : World} {es : List Ent} {lv : Value} {hvs : List Value} (h : RefAt w es lv hvs) (hb : Below w.heap.size w w') : RefAt w' es lv hvs :=
  ⟨own_below h.own hb, h.len, fun i e hv h1 h2 => by obtain ⟨a, b, c⟩ := h.el i e hv h1 h2; exact ⟨a, own_below b hb, c⟩⟩
theorem RefAt.kt {w w' : World} {es : List Ent} {lv : Value} {hvs : List Value} (h : RefAt w es lv hvs) (hk : KeptT w w') : RefAt w' es lv hvs :=
  ⟨own_kt h.own hk (by decide) (by decide), h.len, fun i e hv h1 h2 => by obtain ⟨a, b, c⟩ := h.el i e hv h1 h2; exact ⟨a, own_kt b hk (by decide) (by decide), c⟩⟩
theorem RefAt.slice {w : World} {es : List Ent} {lv : Value} {hvs : List Value} (h : RefAt w es lv hvs) : SliceV w entC lv ((es.map (·.r)).zip hvs) := by
  have hz : ((es.map (·.r)).zip hvs).length = es.length := by rw [List.length_zip, List.length_map, h.len]; omega
  have ho := h.own
  rw [← hz] at ho
  exact SliceV.of_own (f := entC) (k := 11) (by decide) entC_len ho
theorem RefAt.get {w : World} {es : List Ent} {lv : Value} {hvs : List Value} (h : RefAt w es lv hvs) (k : Nat) (e : Ent) (he : es[k]? = some e) : ∃ hv, hvs[k]? = some hv ∧ ((es.map (·.r)).zip hvs)[k]? = some (e.r, hv) := by
  have hk : k < hvs.length := by rw [h.len]; exact (List.getElem?_eq_some_iff.1 he).1
  refine ⟨hvs[k], List.getElem?_eq_getElem hk, ?_⟩
  rw [List.getElem?_zip_eq_some]
  exact ⟨by rw [List.getElem?_map, he]; rfl, List.getElem?_eq_getElem hk⟩
theorem RefAt.fits {w : World} {es : List Ent} {lv : Value} {hvs : List Value} (h : RefAt w es lv hvs) : ∀ e ∈ es, e.r.Fit := by
  intro e he
  obtain ⟨j, hj⟩ := List.mem_iff_getElem?.1 he
  obtain ⟨hv, h1, -⟩ := h.get j e hj
  exact (h.el j e hv hj h1).1
theorem rng_sub0 {w : World} {g o : Nat} {a b : List Value} (h : w.rangeAt g o (a ++ b)) : w.rangeAt g o a := fun j v hj => h j v (by rw [List.getElem?_append_left (List.getElem?_eq_some_iff.1 hj).1, hj])
set_option maxRecDepth 20000 in
set_option maxHeartbeats 3200000 in
theorem rAt_at (es : List Ent) (g : BitVec 64) (lv : Value) (hvs : List Value) (r : Rec) (j : Int) (w : World) (h : RefAt w es lv hvs) (hlen : es.length ≤ 256) (hj : ix es r = j) :
    Calls Tryz.prog 47 #[.agg #[lv, .int .u64 (uv g)], .agg r.cells.toArray] w fun e w' => e = .returned (.int .i64 j) ∧ Below w.heap.size w w' := by
  obtain ⟨al, cl, rfl⟩ : ∃ a c, lv = .slice a es.length c := own_shape h.own
  obtain ⟨W, hW⟩ : ∃ W, W = (w.alloc (.cells #[.slice al es.length cl, .int .u64 (uv g)] 32)).alloc (.cells r.cells.toArray 37) := ⟨_, rfl⟩
  have D := Lib.hid (show Below w.heap.size w W by rw [hW]; exact gr_tr (gr_alloc w _) (gr_alloc _ _))
  have X := Lib.hid (show W.heap[w.heap.size]? = some (.cells #[.slice al es.length cl, .int .u64 (uv g)] 32 (0, 0)) by rw [hW]; exact blk_below (heap_alloc_new w _) (gr_alloc _ _))
  have Y := Lib.hid (show W.heap[w.heap.size + 1]? = some (.cells r.cells.toArray 37 (0, 0)) by rw [hW]; have h := heap_alloc_new (w.alloc (.cells #[.slice al es.length cl, .int .u64 (uv g)] 32)) (.cells r.cells.toArray 37); simpa using h)
  have HW := Lib.hid hW
  have HJ := Lib.hid hj
  have RR := Lib.hid h
  have SS := Lib.hid h.slice
  have hz : ((es.map (·.r)).zip hvs).length = es.length := by rw [List.length_zip, List.length_map, h.len]; omega
  obtain ⟨n, hn⟩ : ∃ n, es.length = n := ⟨_, rfl⟩
  have HZ := Lib.hid (show ((es.map (·.r)).zip hvs).length = n by rw [hz, hn])
  have HN := Lib.hid hn
  have CRS := Lib.hid (show r.cells.toArray.size = 10 from rfl)
  have EQL := Lib.hid (fun e w => rec_eql e r w)
  obtain ⟨cr, hcr⟩ : ∃ c, r.cells.toArray = c := ⟨_, rfl⟩
  rw [hcr] at HW Y CRS EQL ⊢
  rw [hn] at X RR SS HW hlen ⊢
  clear hW h hj hz hn hcr
  go_enter Tryz.func47, Tryz.ntmps47
  go_upto_region 1 with fail
  rw [← HW.out]
  clear HW
  go_wp2
  go_loopw [5] (fun i wr => ∃ k : Nat, k ≤ n ∧ i = .int .i64 k ∧ Hid (∀ q (hq : q < es.length), q < k → (es[q]).r.same r = false) ∧ Below W.heap.size W wr) (fun i _ => n - (intOf i).toNat)
  case atStart => exact ⟨0, by omega, rfl, Lib.hid (fun q hq h => by omega), Below.refl _ _⟩
  case round =>
    obtain ⟨k, hk, rfl, hA, hb⟩ := hrel
    have C := Lib.hid hb
    have XK := Lib.hid (blk_below X.out hb)
    have YK := Lib.hid (blk_below Y.out hb)
    have x0 : wr.cell? ⟨w.heap.size, 0, none⟩ = some (.slice al n cl) := (cell_of_row _ _ 0 _ _ _ XK.out).trans rfl
    clear hb
    by_cases hlt : k < n
    · have hks : k < es.length := by rw [HN.out]; exact hlt
      obtain ⟨e, he⟩ : ∃ e, es[k]? = some e := ⟨_, List.getElem?_eq_getElem hks⟩
      have hek : es[k] = e := by rw [List.getElem?_eq_getElem hks] at he; exact Option.some.inj he
      obtain ⟨hv, h1, h2⟩ := RR.out.get k e he
      obtain ⟨gq, o, cq, he1, hr1⟩ := SliceV.rng entC_len SS.out k (e.r, hv) h2 (by decide)
      injection he1 with he1 he1' he1''
      subst he1; subst he1''
      have hr2 : w.rangeAt gq (o + k * 11) e.r.cells := rng_sub0 hr1
      have R1 := Lib.hid (rng_below hr2 (gr_tr D.out C.out))
      obtain ⟨b, hb⟩ : ∃ b, e.r.same r = b := ⟨_, rfl⟩
      have heq := EQL.out e.r
      rw [hb] at heq
      have CLL := Lib.hid (rec_len e.r)
      obtain ⟨cl2, hcl⟩ : ∃ c, e.r.cells = c := ⟨_, rfl⟩
      rw [hcl] at R1 CLL heq
      have HB := Lib.hid (show (es[k]'hks).r.same r = b by rw [hek]; exact hb)
      have q0 : ∀ y : KeepT nowhere wr, y.val.cell? ⟨w.heap.size, 0, none⟩ = some (.slice (some ⟨gq, o, none⟩) n cl) := fun y => y.cell x0 id
      clear he hek h1 h2 hr1 hr2 hb hcl he1'
      go_upto_region 4 with fail
      refine wp_region_planW nowhere [(true, 0), (true, 1), (true, 2), (true, 3), (true, 4), (true, 5), (true, 6), (true, 7)] (by kernel_rfl) (by kernel_rfl) (by intro c a d v w h; cases d <;> exact h) ?_
      intro W1 K1 C1
      (refine wpS_firm rfl (fun K hK => ?_); simp only [Keep]; go_simp; refine hK _ ?_; clear hK K)
      (refine wpS_firm rfl (fun K hK => ?_); simp only [Keep]; go_simp; refine hK _ ?_; clear hK K)
      (refine wpS_firm rfl (fun K hK => ?_); simp only [Keep]; go_simp; refine hK _ ?_; clear hK K)
      (refine wpS_firm rfl (fun K hK => ?_); simp only [Keep]; go_simp; refine hK _ ?_; clear hK K)
      (refine wpS_firm rfl (fun K hK => ?_); simp only [Keep]; go_simp; refine hK _ ?_; clear hK K)
      refine wpS_load_mid rfl rfl 37 (.tmp 17) rfl gq (o + k * 11) rfl cl2 _ (fun x hx => Keep.rng hx R1.out id) Tryz.underlying37 rfl (by rw [CLL.out]; kernel_rfl) ?_
      refine wpS_load_rowM rfl rfl 37 (.tmp 3) rfl (w.heap.size + 1) rfl 37 cr (0, 0) _ (fun x hx => Keep.blkB hx YK.out id) Tryz.underlying37 rfl (by rw [CRS.out]; kernel_rfl) ?_
      (refine wpS_firm rfl (fun K hK => ?_); simp only [Keep]; go_simp; refine hK _ ?_; clear hK K)
      unfold wpS
      clear heq q0 x0
      have C2 := Lib.hid (C.out.trans (C1.out.mono C.out.size))
      cases b
      · have hA2 := Lib.hid (show ∀ q (hq : q < es.length), q < k + 1 → (es[q]).r.same r = false from fun q hq h => by
          by_cases e : q = k
          · subst e; exact HB.out
          · exact hA.out q hq (by omega))
        go_wp2
        go_roundw
        case rel => exact ⟨k + 1, by omega, by go_num, hA2, C2.out⟩
        case measure => simp [intOf]; omega
      · have hjk : j = k := by rw [← HJ.out]; exact ix_at hks HB.out (fun i hi => hA.out i (by omega) hi)
        subst hjk
        go_wp2
        go_ret
        exact ⟨rfl, gr_tr D.out C2.out⟩
    · obtain rfl : n = k := by omega
      have hj1 : j = -1 := by rw [← HJ.out]; exact ix_no (fun i hi => hA.out i hi (by rw [HN.out] at hi; exact hi))
      subst hj1
      go_wp2
      go_ret
      exact ⟨rfl, gr_tr D.out C.out⟩
end Go.Proofs.YtjcgdenkmmgmfaaGreatDoor
namespace Go.Proofs.YtjcgdenkmmgmfaaGreatDoor
open Go.RowKit Dsc
set_option linter.unusedVariables false
set_option linter.unusedSimpArgs false
attribute [local go_sem] Oper.semAt_some
theorem wpList_store_rowC {P : Program} {ops : Array Oper} {rest : List Oper} {o : Oper} {a : Act} {W : World} {Q : Exit → Act → World → Prop} (hgd : o.guard = none) (ty : TypeId) (x y : Operand) (ho : o.op = .store ty x y) (g : Nat)
    (cells : Array Value) (hx : a.eval x = .pointer (some ⟨g, 0, none⟩)) (hy : a.eval y = .agg cells) (t : TypeId) (old : Array Value) (hg : W.heap[g]? = some (.cells old t (0, 0)))
    (hi : (P.info? ty).map (·.size) = some cells.size) (hold : old.size = cells.size) (h1 : cells.all (·.oneCell') = true)
    (h : ∀ w', w'.heap[g]? = some (.cells cells t (0, 0)) → Chg (fun k => k = g) W w' → wpList P ops Q rest (a.put o.dst undef) w') : wpList P ops Q (o :: rest) a W :=
  wpList_store_row hgd ty x y ho g cells hx hy t old hg hi hold h1 (h _ (setRow_heap _ _ _ _ _ _ hg) (Chg.setRow (B := fun k => k = g) _ rfl _))
theorem rentsOk : ElemOk Tryz.prog 30 81 (.agg #[.int .u8 0, .int .u8 0, .bool false, .bool false, .int .u16 0, .int .u16 0, .int .u16 0, .string ⟨#[]⟩, .string ⟨#[]⟩, .string ⟨#[]⟩, .slice none 0 0]) 11 88 :=
  ⟨Tryz.underlying30, info_parts (by kernel_rfl), rfl, by decide⟩
theorem strsOk : ElemOk Tryz.prog 38 9 (.string ⟨#[]⟩) 1 16 :=
  ⟨Tryz.underlying38, info_parts (by kernel_rfl), rfl, by decide⟩
/-- An entry is added to a list that is new. -/
theorem RefAt.added {w : World} {es : List Ent} {lv : Value} {hvs : List Value} {x : Ent} {hv lv' : Value} {bh bl : Nat} (hlen : hvs.length = es.length)
    (hel : ∀ (i : Nat) (e : Ent) (hv : Value), es[i]? = some e → hvs[i]? = some hv → e.r.Fit ∧ HostsV w hv e.hs ∧ hv.oneCell' = true ∧ (∀ s ∈ e.hs, s.length ≤ 9223372036854775807) ∧ e.hs.length ≤ 256)
    (hH : w.ownsRow bh 9 1 hv x.hs.length (x.hs.flatMap strC)) (hfit : x.r.Fit) (hsl : ∀ s ∈ x.hs, s.length ≤ 9223372036854775807) (hn : x.hs.length ≤ 256)
    (hown : w.ownsRow bl 81 11 lv' (es.length + 1) (((es.map (·.r)).zip hvs).flatMap entC ++ entC (x.r, hv))) : RefAt w (es ++ [x]) lv' (hvs ++ [hv]) := by
  refine ⟨?_, by simp [hlen], ?_⟩
  · have e : (((es ++ [x]).map (·.r)).zip (hvs ++ [hv])).flatMap entC = ((es.map (·.r)).zip hvs).flatMap entC ++ entC (x.r, hv) := by
      rw [List.map_append, List.zip_append (by rw [List.length_map, hlen]), List.flatMap_append]; simp
    rw [e, List.length_append]
    exact own_base hown (Nat.zero_le _)
  · intro i e hv2 h1 h2
    by_cases hi : i < es.length
    · rw [List.getElem?_append_left hi] at h1
      rw [List.getElem?_append_left (by rw [hlen]; exact hi)] at h2
      exact hel i e hv2 h1 h2
    · rw [List.getElem?_append_right (by omega)] at h1
      rw [List.getElem?_append_right (by rw [hlen]; omega), hlen] at h2
      obtain ⟨j, hj⟩ : ∃ j, i - es.length = j := ⟨_, rfl⟩
      rw [hj] at h1 h2
      cases j with
      | zero =>
        simp at h1 h2
        subst h1; subst h2
        exact ⟨hfit, own_base hH (Nat.zero_le _), own_one hH, hsl, hn⟩
      | succ j => simp at h1
theorem RefAt.ones {w : World} {es : List Ent} {lv : Value} {hvs : List Value} (h : RefAt w es lv hvs) : ∀ v ∈ ((es.map (·.r)).zip hvs).flatMap entC, v.oneCell' = true := by
  intro v hv
  obtain ⟨x, hx, hv⟩ := List.mem_flatMap.1 hv
  obtain ⟨j, hj⟩ := List.mem_iff_getElem?.1 hx
  obtain ⟨h1, h2⟩ := List.getElem?_zip_eq_some.1 hj
  rw [List.getElem?_map] at h1
  obtain ⟨e, he, h3⟩ := Option.map_eq_some_iff.1 h1
  obtain ⟨-, -, h4, -⟩ := h.el j e x.2 he h2
  unfold entC at hv
  rcases List.mem_append.1 hv with hv | hv
  · revert hv; simp [Dsc.Rec.cells, Value.oneCell']; rintro (rfl | rfl | rfl | rfl | rfl | rfl | rfl | rfl | rfl | rfl) <;> rfl
  · rw [List.mem_singleton.1 hv]; exact h4
theorem RefAt.set {w w' : World} {q : Nat} {es : List Ent} {lv : Value} {hvs : List Value} {cs : Array Value} {t : TypeId} {fr : Nat × Nat} (h : RefAt w es lv hvs) (hq : w.heap[q]? = some (.cells cs t fr)) (h1 : t ≠ 81) (h2 : t ≠ 9) (hc : Chg (fun k => k = q) w w') : RefAt w' es lv hvs := by
  refine ⟨own_chg h.own hc (fun k hk e => ?_), h.len, fun i e hv a b => ?_⟩
  · have e' : k = q := e
    subst e'
    exact own_apartB h.own hq (fun e => h1 e.symm) hk
  · obtain ⟨x, y, z⟩ := h.el i e hv a b
    refine ⟨x, own_chg y hc (fun k hk e => ?_), z⟩
    have e' : k = q := e
    subst e'
    exact own_apartB y hq (fun e => h2 e.symm) hk
/-- What the reference's Add returns. -/
def AddPost (w : World) (es : List Ent) (g : BitVec 64) (hvs : List Value) (r : Rec) (hs : List (List (BitVec 8))) (e : Ending) (w' : World) : Prop :=
  ∃ lv' hvs', e = .returned (.tuple #[.agg #[lv', .int .u64 (uv (addG es g r hs))], .int .i64 (addE es r hs)]) ∧ RefAt w' (addS es r hs) lv' hvs' ∧ (∀ (i : Nat) (hv' : Value), hvs'[i]? = some hv' → hvs[i]? = some hv' ∨ ∀ b, hv'.ownBlock = some b → w.heap.size ≤ b) ∧ Below w.heap.size w w'
set_option maxRecDepth 20000 in
set_option maxHeartbeats 6400000 in
theorem rAdd_at (es : List Ent) (g : BitVec 64) (lv : Value) (hvs : List Value) (r : Rec) (v : Value) (hs : List (List (BitVec 8))) (w : World) (h : RefAt w es lv hvs) (hlen : es.length ≤ 256) (hfit : r.Fit) (hv : SliceV w strC v hs) (hl : ∀ s ∈ hs, s.length ≤ 9223372036854775807) :
    Calls Tryz.prog 20 #[.agg #[lv, .int .u64 (uv g)], .agg r.cells.toArray, v] w (AddPost w es g hvs r hs) := by
  obtain ⟨al, cl, rfl⟩ : ∃ a c, lv = .slice a es.length c := own_shape h.own
  obtain ⟨ah, ch, rfl, hna, hm1, hm2, hrow⟩ := id hv
  obtain ⟨n, hn⟩ : ∃ n, es.length = n := ⟨_, rfl⟩
  obtain ⟨nh, hnh⟩ : ∃ n, hs.length = n := ⟨_, rfl⟩
  have HN := Lib.hid hn; have HNH := Lib.hid hnh
  have hmaxh : nh ≤ 9223372036854775807 := by omega
  rw [hn] at h hlen ⊢
  rw [hnh] at hv ⊢
  obtain ⟨W, hW⟩ : ∃ W, W = ((w.alloc (.cells #[.slice al n cl, .int .u64 (uv g)] 32)).alloc (.cells r.cells.toArray 37)).alloc (.cells #[.slice none 0 0, .int .u64 0] 32) := ⟨_, rfl⟩
  have D := Lib.hid (show Below w.heap.size w W by rw [hW]; exact gr_tr (gr_tr (gr_alloc w _) (gr_alloc _ _)) (gr_alloc _ _))
  have X := Lib.hid (show W.heap[w.heap.size]? = some (.cells #[.slice al n cl, .int .u64 (uv g)] 32 (0, 0)) by rw [hW]; exact blk_below (blk_below (heap_alloc_new w _) (gr_alloc _ _)) (gr_alloc _ _))
  have Y := Lib.hid (show W.heap[w.heap.size + 1]? = some (.cells #[.int .u8 (uv r.tr), .int .u8 (uv r.fa), .bool r.rf, .bool r.sc, .int .u16 (uv r.po), .int .u16 (uv r.ct), .int .u16 (uv r.qu), .string (strOf r.sv), .string (strOf r.sb), .string (strOf r.ad)] 37 (0, 0)) by rw [hW]; have h := blk_below (heap_alloc_new (w.alloc (.cells #[.slice al n cl, .int .u64 (uv g)] 32)) (.cells r.cells.toArray 37)) (gr_alloc _ (.cells #[.slice none 0 0, .int .u64 0] 32)); rw [World.size_alloc] at h; exact h)
  have Z := Lib.hid (show W.heap[w.heap.size + 2]? = some (.cells #[.slice none 0 0, .int .u64 0] 32 (0, 0)) by rw [hW]; have h := heap_alloc_new ((w.alloc (.cells #[.slice al n cl, .int .u64 (uv g)] 32)).alloc (.cells r.cells.toArray 37)) (.cells #[.slice none 0 0, .int .u64 0] 32); simpa using h)
  have WS := Lib.hid (show W.heap.size = w.heap.size + 3 by rw [hW]; simp)
  have HW := Lib.hid hW
  have RR := Lib.hid h; have SV := Lib.hid hv; have HL := Lib.hid hl; have HLEN := Lib.hid hlen; have HFIT := Lib.hid hfit
  obtain ⟨b1, hb1⟩ : ∃ b, r.ok = b := ⟨_, rfl⟩
  obtain ⟨j, hj⟩ : ∃ j, ix es r = j := ⟨_, rfl⟩
  have VALX := Lib.hid (fun w => rValid_at r b1 w hfit hb1)
  have ATX := Lib.hid (fun w (h : RefAt w es (.slice al n cl) hvs) => rAt_at es g _ hvs r j w h (by rw [HN.out]; exact HLEN.out) hj)
  have B1 := Lib.hid hb1; have HJ := Lib.hid hj
  have hcr : r.cells.toArray = #[.int .u8 (uv r.tr), .int .u8 (uv r.fa), .bool r.rf, .bool r.sc, .int .u16 (uv r.po), .int .u16 (uv r.ct), .int .u16 (uv r.qu), .string (strOf r.sv), .string (strOf r.sb), .string (strOf r.ad)] := rfl
  rw [hcr] at HW VALX ATX ⊢
  clear hW hb1 hj h hlen hfit hv hl hna hm1 hm2 hrow hn hnh hcr
  go_enter Tryz.func20, Tryz.ntmps20
  go_upto_region 1 with fail
  rw [← HW.out]
  clear HW
  go_wp2
  go_loopw [8] (fun i wr => ∃ k : Nat, k ≤ nh ∧ i = .int .i64 k ∧ Hid ((hs.take k).all nmOk = true) ∧ Below W.heap.size W wr) (fun i _ => nh - (intOf i).toNat)
  case atStart => exact ⟨0, by omega, rfl, Lib.hid rfl, Below.refl _ _⟩
  case round =>
    obtain ⟨k, hk, rfl, hA, hb⟩ := hrel
    have C := Lib.hid hb
    have XK := Lib.hid (blk_below X.out hb)
    have YK := Lib.hid (blk_below Y.out hb)
    have ZK := Lib.hid (blk_below Z.out hb)
    clear hb
    by_cases hlt : k < nh
    · obtain ⟨s, hs1⟩ : ∃ s, hs[k]? = some s := ⟨_, List.getElem?_eq_getElem (by rw [HNH.out]; exact hlt)⟩
      obtain ⟨gq, o, cq, he, hc⟩ := str_rng (SV.out.below (gr_tr D.out C.out)) k s hs1
      injection he with he he' he''
      subst he; subst he''
      obtain ⟨b, hb⟩ : ∃ b, nmOk s = b := ⟨_, rfl⟩
      have NM := Lib.hid (fun w => rName_at s b w (HL.out s (List.mem_of_getElem? hs1)) hb)
      have ALM := Lib.hid (fun h => all_more nmOk hs k s hs1 (by rw [hb]; exact h) hA.out)
      have ALN := Lib.hid (fun h => all_no nmOk hs k s hs1 (by rw [hb]; exact h))
      obtain ⟨st, hst⟩ : ∃ st, strOf s = st := ⟨_, rfl⟩
      rw [hst] at NM hc
      clear hs1 hb hst he'
      cases b
      · have NE := Lib.hid (show addE es r hs = 2 by unfold addE; rw [if_pos (.inr (.inr (ALN.out rfl)))])
        go_wp2_with (first | (go_at_call 45; go_loud (refine (NM.out _).mono ?_; rintro e w4 ⟨rfl, hw⟩; have C4 := Lib.hid (gr_tr C.out hw); have Z4 := Lib.hid (blk_below ZK.out hw); have X4 := Lib.hid (blk_below XK.out hw); clear hw)) | (refine wpList_load_row rfl 32 (.tmp 3) rfl w.heap.size rfl 32 #[.slice al n cl, .int .u64 (uv g)] (0, 0) _ X4.out Tryz.underlying32 rfl (by kernel_rfl) ?_) | (refine wpList_store_rowC rfl 32 (.tmp 6) _ rfl (w.heap.size + 2) #[.slice al n cl, .int .u64 (uv g)] rfl rfl 32 _ Z4.out (by kernel_rfl) rfl (by simp [Value.oneCell']) ?_; intro w9 h9 hc; have Z9 := Lib.hid h9; have C9 := Lib.hid ((gr_tr D.out C4.out).trans (hc.below (fun k e => by have e' : k = w.heap.size + 2 := e; omega) (gr_tr D.out C4.out).size)); have R9 := Lib.hid ((RR.out.below (gr_tr D.out C4.out)).set Z4.out (by decide) (by decide) hc); clear h9 hc))
        (exact bodyPost_ret (results_row_tmp rfl _ _ (w.heap.size + 2) 32 #[.slice al n cl, .int .u64 (uv g)] (0, 0) _ rfl Z9.out Tryz.underlying32 rfl (by kernel_rfl)) rfl ⟨.slice al n cl, hvs, by unfold addG; rw [NE.out, if_neg (by decide)]; rfl, by unfold addS; rw [NE.out, if_neg (by decide)]; exact R9.out, fun i hv' h => .inl h, C9.out⟩)
      · go_wp2_with (go_at_call 45; go_loud (refine (NM.out _).mono ?_; rintro e w4 ⟨rfl, hw⟩; have C4 := Lib.hid (gr_tr C.out hw); have Z4 := Lib.hid (blk_below ZK.out hw); have X4 := Lib.hid (blk_below XK.out hw); clear hw))
        go_roundw
        case rel => exact ⟨k + 1, by omega, by go_num, Lib.hid (ALM.out (by trivial)), C4.out⟩
        case measure => simp [intOf]; omega
    · obtain rfl : nh = k := by omega
      have HALL := Lib.hid (show hs.all nmOk = true by have := hA.out; rwa [List.take_of_length_le (by rw [HNH.out]; exact Nat.le_refl _)] at this)
      cases b1
      · have NE := Lib.hid (show addE es r hs = 2 by unfold addE; rw [if_pos (.inl B1.out)])
        go_wp2_with (first | (go_at_call 46; go_loud (refine (VALX.out _).mono ?_; rintro e w5 ⟨rfl, hw⟩; have C5 := Lib.hid (gr_tr C.out hw); have X5 := Lib.hid (blk_below XK.out hw); have Y5 := Lib.hid (blk_below YK.out hw); have Z5 := Lib.hid (blk_below ZK.out hw); clear hw)) | (refine wpList_load_row rfl 37 (.tmp 4) rfl (w.heap.size + 1) rfl 37 #[.int .u8 (uv r.tr), .int .u8 (uv r.fa), .bool r.rf, .bool r.sc, .int .u16 (uv r.po), .int .u16 (uv r.ct), .int .u16 (uv r.qu), .string (strOf r.sv), .string (strOf r.sb), .string (strOf r.ad)] (0, 0) _ YK.out Tryz.underlying37 rfl (by kernel_rfl) ?_) | (refine wpList_load_row rfl 32 (.tmp 3) rfl w.heap.size rfl 32 #[.slice al n cl, .int .u64 (uv g)] (0, 0) _ X5.out Tryz.underlying32 rfl (by kernel_rfl) ?_) | (refine wpList_store_rowC rfl 32 (.tmp 6) _ rfl (w.heap.size + 2) #[.slice al n cl, .int .u64 (uv g)] rfl rfl 32 _ Z5.out (by kernel_rfl) rfl (by simp [Value.oneCell']) ?_; intro w9 h9 hc; have Z9 := Lib.hid h9; have C9 := Lib.hid ((gr_tr D.out C5.out).trans (hc.below (fun k e => by have e' : k = w.heap.size + 2 := e; omega) (gr_tr D.out C5.out).size)); have R9 := Lib.hid ((RR.out.below (gr_tr D.out C5.out)).set Z5.out (by decide) (by decide) hc); clear h9 hc))
        (exact bodyPost_ret (results_row_tmp rfl _ _ (w.heap.size + 2) 32 #[.slice al n cl, .int .u64 (uv g)] (0, 0) _ rfl Z9.out Tryz.underlying32 rfl (by kernel_rfl)) rfl ⟨.slice al n cl, hvs, by unfold addG; rw [NE.out, if_neg (by decide)]; rfl, by unfold addS; rw [NE.out, if_neg (by decide)]; exact R9.out, fun i hv' h => .inl h, C9.out⟩)
      · by_cases hbig : (256 : Int) < (nh : Int)
        · have NE := Lib.hid (show addE es r hs = 2 by unfold addE; rw [if_pos (.inr (.inl (by rw [HNH.out]; omega)))])
          go_wp2_with (first | (go_at_call 46; go_loud (refine (VALX.out _).mono ?_; rintro e w5 ⟨rfl, hw⟩; have C5 := Lib.hid (gr_tr C.out hw); have X5 := Lib.hid (blk_below XK.out hw); have Y5 := Lib.hid (blk_below YK.out hw); have Z5 := Lib.hid (blk_below ZK.out hw); clear hw)) | (refine wpList_load_row rfl 37 (.tmp 4) rfl (w.heap.size + 1) rfl 37 #[.int .u8 (uv r.tr), .int .u8 (uv r.fa), .bool r.rf, .bool r.sc, .int .u16 (uv r.po), .int .u16 (uv r.ct), .int .u16 (uv r.qu), .string (strOf r.sv), .string (strOf r.sb), .string (strOf r.ad)] (0, 0) _ YK.out Tryz.underlying37 rfl (by kernel_rfl) ?_) | (refine wpList_load_row rfl 32 (.tmp 3) rfl w.heap.size rfl 32 #[.slice al n cl, .int .u64 (uv g)] (0, 0) _ X5.out Tryz.underlying32 rfl (by kernel_rfl) ?_) | (refine wpList_store_rowC rfl 32 (.tmp 6) _ rfl (w.heap.size + 2) #[.slice al n cl, .int .u64 (uv g)] rfl rfl 32 _ Z5.out (by kernel_rfl) rfl (by simp [Value.oneCell']) ?_; intro w9 h9 hc; have Z9 := Lib.hid h9; have C9 := Lib.hid ((gr_tr D.out C5.out).trans (hc.below (fun k e => by have e' : k = w.heap.size + 2 := e; omega) (gr_tr D.out C5.out).size)); have R9 := Lib.hid ((RR.out.below (gr_tr D.out C5.out)).set Z5.out (by decide) (by decide) hc); clear h9 hc))
          (exact bodyPost_ret (results_row_tmp rfl _ _ (w.heap.size + 2) 32 #[.slice al n cl, .int .u64 (uv g)] (0, 0) _ rfl Z9.out Tryz.underlying32 rfl (by kernel_rfl)) rfl ⟨.slice al n cl, hvs, by unfold addG; rw [NE.out, if_neg (by decide)]; rfl, by unfold addS; rw [NE.out, if_neg (by decide)]; exact R9.out, fun i hv' h => .inl h, C9.out⟩)
        · have HNL := Lib.hid (show nh ≤ 256 by omega)
          have HC := Lib.hid (show ¬ (r.ok = false ∨ 256 < hs.length ∨ hs.all nmOk = false) by
            rw [B1.out, HALL.out, HNH.out]; rintro (h | h | h)
            · exact absurd h (by decide)
            · omega
            · exact absurd h (by decide))
          go_upto_region 8 with (first | (go_at_call 46; go_loud (refine (VALX.out _).mono ?_; rintro e w5 ⟨rfl, hw⟩; have C5 := Lib.hid (gr_tr C.out hw); have X5 := Lib.hid (blk_below XK.out hw); have Y5 := Lib.hid (blk_below YK.out hw); have Z5 := Lib.hid (blk_below ZK.out hw); clear hw)) | (refine wpList_load_row rfl 37 (.tmp 4) rfl (w.heap.size + 1) rfl 37 #[.int .u8 (uv r.tr), .int .u8 (uv r.fa), .bool r.rf, .bool r.sc, .int .u16 (uv r.po), .int .u16 (uv r.ct), .int .u16 (uv r.qu), .string (strOf r.sv), .string (strOf r.sb), .string (strOf r.ad)] (0, 0) _ YK.out Tryz.underlying37 rfl (by kernel_rfl) ?_))
          have x0 : w5.cell? ⟨w.heap.size, 0, none⟩ = some (.slice al n cl) := (cell_of_row _ _ 0 _ _ _ X5.out).trans rfl
          clear hbig
          by_cases hfull : (256 : Int) ≤ (n : Int)
          · have NE := Lib.hid (show addE es r hs = 7 by unfold addE; rw [if_neg HC.out, if_pos (by rw [HN.out]; omega)])
            go_wp2_with (first | (refine wpList_load_row rfl 32 (.tmp 3) rfl w.heap.size rfl 32 #[.slice al n cl, .int .u64 (uv g)] (0, 0) _ X5.out Tryz.underlying32 rfl (by kernel_rfl) ?_) | (refine wpList_store_rowC rfl 32 (.tmp 6) _ rfl (w.heap.size + 2) #[.slice al n cl, .int .u64 (uv g)] rfl rfl 32 _ Z5.out (by kernel_rfl) rfl (by simp [Value.oneCell']) ?_; intro w9 h9 hc; have Z9 := Lib.hid h9; have C9 := Lib.hid ((gr_tr D.out C5.out).trans (hc.below (fun k e => by have e' : k = w.heap.size + 2 := e; omega) (gr_tr D.out C5.out).size)); have R9 := Lib.hid ((RR.out.below (gr_tr D.out C5.out)).set Z5.out (by decide) (by decide) hc); clear h9 hc))
            (exact bodyPost_ret (results_row_tmp rfl _ _ (w.heap.size + 2) 32 #[.slice al n cl, .int .u64 (uv g)] (0, 0) _ rfl Z9.out Tryz.underlying32 rfl (by kernel_rfl)) rfl ⟨.slice al n cl, hvs, by unfold addG; rw [NE.out, if_neg (by decide)]; rfl, by unfold addS; rw [NE.out, if_neg (by decide)]; exact R9.out, fun i hv' h => .inl h, C9.out⟩)
          · have HN5 := Lib.hid (show n < 256 by omega)
            go_upto_region 10 with fail
            clear hfull x0
            by_cases hneg : 0 ≤ j
            · have NE := Lib.hid (show addE es r hs = 11 by unfold addE; rw [if_neg HC.out, if_neg (by rw [HN.out]; have := HN5.out; omega), if_pos (by rw [HJ.out]; exact hneg)])
              go_wp2_with (first | (refine wpList_load_row rfl 32 (.tmp 3) rfl w.heap.size rfl 32 #[.slice al n cl, .int .u64 (uv g)] (0, 0) _ X5.out Tryz.underlying32 rfl (by kernel_rfl) ?_) | (refine wpList_load_row rfl 37 (.tmp 4) rfl (w.heap.size + 1) rfl 37 #[.int .u8 (uv r.tr), .int .u8 (uv r.fa), .bool r.rf, .bool r.sc, .int .u16 (uv r.po), .int .u16 (uv r.ct), .int .u16 (uv r.qu), .string (strOf r.sv), .string (strOf r.sb), .string (strOf r.ad)] (0, 0) _ Y5.out Tryz.underlying37 rfl (by kernel_rfl) ?_) | (go_at_call 47; go_loud (refine (ATX.out _ (RR.out.below (gr_tr D.out C5.out))).mono ?_; rintro e w6 ⟨rfl, hw⟩; have C6 := Lib.hid (gr_tr C5.out hw); have X6 := Lib.hid (blk_below X5.out hw); have Y6 := Lib.hid (blk_below Y5.out hw); have Z6 := Lib.hid (blk_below Z5.out hw); clear hw)) | (refine wpList_load_row rfl 32 (.tmp 3) rfl w.heap.size rfl 32 #[.slice al n cl, .int .u64 (uv g)] (0, 0) _ X6.out Tryz.underlying32 rfl (by kernel_rfl) ?_) | (refine wpList_store_rowC rfl 32 (.tmp 6) _ rfl (w.heap.size + 2) #[.slice al n cl, .int .u64 (uv g)] rfl rfl 32 _ Z6.out (by kernel_rfl) rfl (by simp [Value.oneCell']) ?_; intro w9 h9 hc; have Z9 := Lib.hid h9; have C9 := Lib.hid ((gr_tr D.out C6.out).trans (hc.below (fun k e => by have e' : k = w.heap.size + 2 := e; omega) (gr_tr D.out C6.out).size)); have R9 := Lib.hid ((RR.out.below (gr_tr D.out C6.out)).set Z6.out (by decide) (by decide) hc); clear h9 hc))
              (exact bodyPost_ret (results_row_tmp rfl _ _ (w.heap.size + 2) 32 #[.slice al n cl, .int .u64 (uv g)] (0, 0) _ rfl Z9.out Tryz.underlying32 rfl (by kernel_rfl)) rfl ⟨.slice al n cl, hvs, by unfold addG; rw [NE.out, if_neg (by decide)]; rfl, by unfold addS; rw [NE.out, if_neg (by decide)]; exact R9.out, fun i hv' h => .inl h, C9.out⟩)
            · have NE := Lib.hid (show addE es r hs = 0 by unfold addE; rw [if_neg HC.out, if_neg (by rw [HN.out]; have := HN5.out; omega), if_neg (by rw [HJ.out]; exact hneg)])
              go_upto_region 12 with (first | (refine wpList_load_row rfl 32 (.tmp 3) rfl w.heap.size rfl 32 #[.slice al n cl, .int .u64 (uv g)] (0, 0) _ X5.out Tryz.underlying32 rfl (by kernel_rfl) ?_) | (refine wpList_load_row rfl 37 (.tmp 4) rfl (w.heap.size + 1) rfl 37 #[.int .u8 (uv r.tr), .int .u8 (uv r.fa), .bool r.rf, .bool r.sc, .int .u16 (uv r.po), .int .u16 (uv r.ct), .int .u16 (uv r.qu), .string (strOf r.sv), .string (strOf r.sb), .string (strOf r.ad)] (0, 0) _ Y5.out Tryz.underlying37 rfl (by kernel_rfl) ?_) | (go_at_call 47; go_loud (refine (ATX.out _ (RR.out.below (gr_tr D.out C5.out))).mono ?_; rintro e w6 ⟨rfl, hw⟩; have C6 := Lib.hid (gr_tr C5.out hw); have X6 := Lib.hid (blk_below X5.out hw); have Y6 := Lib.hid (blk_below Y5.out hw); have Z6 := Lib.hid (blk_below Z5.out hw); clear hw)))
              have x0 : w6.cell? ⟨w.heap.size, 0, none⟩ = some (.slice al n cl) := (cell_of_row _ _ 0 _ _ _ X6.out).trans rfl
              clear hneg
              obtain ⟨a', c', he, hs0, hs1, hs2, hs3⟩ := (RR.out.below (gr_tr D.out C6.out)).slice
              injection he with he1 he2 he3
              subst he1; subst he3
              obtain ⟨zs, hzs⟩ : ∃ z, ((es.map (·.r)).zip hvs) = z := ⟨_, rfl⟩
              rw [hzs] at he2 hs1 hs3
              have HZS := Lib.hid hzs
              have HZL := Lib.hid he2.symm
              have ONES := Lib.hid (show ∀ v ∈ zs.flatMap entC, v.oneCell' = true by rw [← hzs]; exact RR.out.ones)
              have S0 := Lib.hid hs0; have S1 := Lib.hid hs1; have S3 := Lib.hid hs3
              have S63 := Lib.hid (show n ≤ 9223372036854775807 by have := HN5.out; omega)
              clear he2 hs0 hs1 hs2 hs3 hzs
              go_upto_region 13 with (at_builtin; go_loud (refine app_law_at rentsOk rfl _ _ rfl W.heap.size (.slice none 0 0) 0 [] rfl (World.ownsRow_nil _ _ _ _) al n cl (zs.flatMap entC) rfl S0.out (by rw [← HZL.out]; exact S1.out) S3.out (by rw [flat_len (f := entC) (k := 11) entC_len, HZL.out]) ONES.out (by have := HN5.out; omega) (by have := HN5.out; omega) C6.out.size ?_; intro v7 w7 ho hg ha; have hb : Below w6.heap.size w6 w7 := (Below.refl _ _).grown hg (Nat.le_refl _) (by intro k hk; cases hk); have C7 := Lib.hid (gr_tr C6.out hb); have X7 := Lib.hid (blk_below X6.out hb); have Y7 := Lib.hid (blk_below Y6.out hb); have Z7 := Lib.hid (blk_below Z6.out hb); rw [Nat.zero_add, List.nil_append] at ho; obtain ⟨a7, c7, rfl⟩ := own_shape ho; have O7 := Lib.hid ho; clear ho hg ha hb))
              clear x0
              have NB := Lib.hid (show ∀ k, k < W.heap.size → k ≠ w.heap.size + 2 → ¬ ((Value.slice a7 n c7).ownBlock = some k ∨ k = w.heap.size + 2) from fun k h1 h2 hB => by
                rcases hB with e | e
                · have := (O7.out.lt k e).1; omega
                · exact h2 e)
              have q0 : ∀ y : KeepT (fun k => (Value.slice a7 n c7).ownBlock = some k ∨ k = w.heap.size + 2) w7, y.val.cell? ⟨w.heap.size, 1, none⟩ = some (.int .u64 (uv g)) := fun y => y.cell ((cell_of_row _ _ 1 _ _ _ X7.out).trans rfl) (NB.out _ (by have := WS.out; omega) (by omega))
              refine wp_region_planW (fun k => (Value.slice a7 n c7).ownBlock = some k ∨ k = w.heap.size + 2) [(true, 0), (true, 1), (true, 2), (true, 7), (true, 8), (true, 9), (false, 3), (true, 4), (false, 5), (false, 6), (true, 10), (false, 11), (true, 12)] (by kernel_rfl) (by kernel_rfl) (by intro c a d v w h; cases d <;> exact h) ?_
              intro W1 K1 C1
              (refine wpS_firm rfl (fun K hK => ?_); simp only [Keep]; go_simp; refine hK _ ?_; clear hK K)
              refine wpS_load_rowM rfl rfl 37 (.tmp 4) rfl (w.heap.size + 1) rfl 37 #[.int .u8 (uv r.tr), .int .u8 (uv r.fa), .bool r.rf, .bool r.sc, .int .u16 (uv r.po), .int .u16 (uv r.ct), .int .u16 (uv r.qu), .string (strOf r.sv), .string (strOf r.sb), .string (strOf r.ad)] (0, 0) _ (fun x hx => Keep.blkB hx Y7.out (NB.out _ (by have := WS.out; omega) (by omega))) Tryz.underlying37 rfl (by kernel_rfl) ?_
              (refine wpS_firm rfl (fun K hK => ?_); simp only [Keep]; go_simp; refine hK _ ?_; clear hK K)
              (refine wpS_firm rfl (fun K hK => ?_); simp only [Keep]; go_simp; refine hK _ ?_; clear hK K)
              (refine wpS_firm rfl (fun K hK => ?_); simp only [Keep]; go_simp; refine hK _ ?_; clear hK K)
              (refine wpS_firm rfl (fun K hK => ?_); simp only [Keep]; go_simp; refine hK _ ?_; clear hK K)
              clear q0
              have CW1 := Lib.hid (C7.out.trans (C1.out.mono C7.out.size))
              obtain ⟨ah', ch', hh, hh0, hh1, hh2, hh3⟩ := SV.out.below (gr_tr D.out CW1.out)
              injection hh with hh4 hh5 hh6
              subst hh4; subst hh6
              have T0 := Lib.hid hh0; have T1 := Lib.hid hh1; have T3 := Lib.hid hh3
              clear hh0 hh1 hh2 hh3 hh5
              refine wpS_chain rfl ?_
              refine app_law_at strsOk rfl _ _ rfl W.heap.size (.slice none 0 0) 0 [] rfl (World.ownsRow_nil _ _ _ _) ah nh ch (hs.flatMap strC) rfl T0.out (by rw [← HNH.out]; exact T1.out) T3.out (by rw [flat_len (f := strC) (k := 1) (fun _ => rfl), HNH.out]) (by intro u hu; obtain ⟨s, -, hu⟩ := List.mem_flatMap.1 hu; rw [List.mem_singleton.1 hu]; rfl) (by have := HNL.out; omega) (by have := HNL.out; omega) CW1.out.size ?_
              intro v8 w8 ho hg ha
              have hb : Below W1.heap.size W1 w8 := (Below.refl _ _).grown hg (Nat.le_refl _) (by intro k hk; cases hk)
              rw [Nat.zero_add, List.nil_append] at ho
              obtain ⟨ahv, chv, rfl⟩ := own_shape ho
              have H8 := Lib.hid ho; have K8 := Lib.hid (K1.out.below hb); have C8 := Lib.hid (gr_tr CW1.out hb)
              have O8 := Lib.hid (own_below (own_below O7.out C1.out) hb)
              have Z8 := Lib.hid (blk_below (blk_below Z7.out C1.out) hb)
              clear ho hg ha hb
              refine ⟨K8.out, ?_⟩
              (refine wpS_firm rfl (fun K hK => ?_); simp only [Keep]; go_simp; refine hK _ ?_; clear hK K)
              refine wpS_chain rfl ?_
              go_wp2
              have K9 := Lib.hid (K8.out.alloc (.cells #[.int .u8 (uv r.tr), .int .u8 (uv r.fa), .bool r.rf, .bool r.sc, .int .u16 (uv r.po), .int .u16 (uv r.ct), .int .u16 (uv r.qu), .string (strOf r.sv), .string (strOf r.sb), .string (strOf r.ad), .slice ahv nh chv] 81))
              have hal := gr_alloc w8 (.cells #[.int .u8 (uv r.tr), .int .u8 (uv r.fa), .bool r.rf, .bool r.sc, .int .u16 (uv r.po), .int .u16 (uv r.ct), .int .u16 (uv r.qu), .string (strOf r.sv), .string (strOf r.sb), .string (strOf r.ad), .slice ahv nh chv] 81)
              have C9 := Lib.hid (gr_tr C8.out hal)
              have O9 := Lib.hid (own_below O8.out hal)
              have H9 := Lib.hid (own_below H8.out hal)
              have Z9 := Lib.hid (blk_below Z8.out hal)
              clear hal
              refine ⟨K9.out, ?_⟩
              refine wpS_chain rfl ?_
              refine app_law_at rentsOk rfl (.tmp 45) (.tmp 50) rfl W.heap.size (.slice a7 n c7) n (zs.flatMap entC) rfl O9.out (some ⟨w8.heap.size, 0, none⟩) 1 1 (entC (r, .slice ahv nh chv)) rfl (by simp) (by omega) (Row.lit w8 #[.int .u8 (uv r.tr), .int .u8 (uv r.fa), .bool r.rf, .bool r.sc, .int .u16 (uv r.po), .int .u16 (uv r.ct), .int .u16 (uv r.qu), .string (strOf r.sv), .string (strOf r.sb), .string (strOf r.ad), .slice ahv nh chv] 81 (0, 0)) rfl (by simp [entC, Dsc.Rec.cells, Value.oneCell']) (by have := HN5.out; omega) (by have := HN5.out; omega) C9.out.size ?_
              intro lv' w10 ho hg ha
              have O10 := Lib.hid ho
              have K10 := Lib.hid (K9.out.grownW hg (fun k hk => .inl hk))
              have D10 := Lib.hid ((gr_tr D.out C9.out).grown hg (gr_tr D.out C9.out).size (fun k hk => by have := (O9.out.lt k hk).1; have := WS.out; omega))
              have H10 := Lib.hid (own_chg H9.out (Chg.of_grown (B := fun k => (Value.slice a7 n c7).ownBlock = some k) hg (fun k hk => hk)) (fun k hk e => own_apartT O9.out H9.out (by decide) k e hk))
              have Z10 := Lib.hid ((hg.block _ (Array.getElem?_eq_some_iff.1 Z9.out).1 (fun e => by have := (O9.out.lt _ e.symm).1; have := WS.out; omega)).trans Z9.out)
              obtain ⟨al', cl', rfl⟩ := own_shape O10.out
              clear ho hg ha
              refine ⟨K10.out, ?_⟩
              (refine wpS_firm rfl (fun K hK => ?_); simp only [Keep]; go_simp; refine hK _ ?_; clear hK K)
              refine wpS_chain rfl ?_
              refine wpList_store_rowC rfl 32 (.tmp 6) (.tmp 55) rfl (w.heap.size + 2) #[.slice al' (n + 1) cl', .int .u64 (uv (g + 1#64))] rfl rfl 32 _ Z10.out (by kernel_rfl) rfl (by simp [Value.oneCell']) ?_
              intro w11 h11 hc
              have Z11 := Lib.hid h11
              have K11 := Lib.hid (K10.out.chgK hc (fun k hk => .inl (.inr hk)))
              have D11 := Lib.hid (D10.out.trans (hc.below (fun k e => by have e' : k = w.heap.size + 2 := e; omega) D10.out.size))
              have O11 := Lib.hid (own_chg O10.out hc (fun k hk e => by have e' : k = w.heap.size + 2 := e; have := (O10.out.lt k hk).1; have := WS.out; omega))
              have H11 := Lib.hid (own_chg H10.out hc (fun k hk e => by have e' : k = w.heap.size + 2 := e; have := (H10.out.lt k hk).1; have := WS.out; omega))
              clear h11 hc
              go_wp2
              refine ⟨K11.out, ?_⟩
              (refine wpS_firm rfl (fun K hK => ?_); simp only [Keep]; go_simp; refine hK _ ?_; clear hK K)
              unfold wpS
              go_wp2
              have RF := RR.out.below D11.out
              have hfin := RefAt.added (lv := Value.slice al n cl) (x := ⟨r, hs⟩) (lv' := .slice al' (n + 1) cl') RF.len RF.el (by rw [HNH.out]; exact H11.out) HFIT.out HL.out (by rw [HNH.out]; exact HNL.out) (by rw [HN.out, HZS.out]; exact O11.out)
              exact bodyPost_ret (results_row_tmp rfl _ _ (w.heap.size + 2) 32 #[.slice al' (n + 1) cl', .int .u64 (uv (g + 1#64))] (0, 0) _ rfl Z11.out Tryz.underlying32 rfl (by kernel_rfl)) rfl ⟨.slice al' (n + 1) cl', _, by unfold addG; rw [NE.out, if_pos rfl]; rfl, by unfold addS; rw [NE.out, if_pos rfl]; exact hfin, fun i hv' h => (by
                by_cases hi : i < hvs.length
                · rw [List.getElem?_append_left hi] at h; exact .inl h
                · rw [List.getElem?_append_right (by omega)] at h
                  obtain ⟨j, hj⟩ : ∃ j, i - hvs.length = j := ⟨_, rfl⟩
                  rw [hj] at h
                  cases j with
                  | zero =>
                    simp at h
                    subst h
                    exact .inr (fun b hb => by have := (H11.out.lt b hb).1; have := WS.out; omega)
                  | succ j => simp at h), D11.out⟩
end Go.Proofs.YtjcgdenkmmgmfaaGreatDoor
namespace Go.Proofs.YtjcgdenkmmgmfaaGreatDoor
open Go.RowKit Dsc
set_option linter.unusedVariables false
set_option linter.unusedSimpArgs false
attribute [local go_sem] Oper.semAt_some
theorem RefAt.erased {w : World} {es : List Ent} {lv' : Value} {hvs : List Value} {bl : Nat} (i : Nat) (hi : i < es.length) (hlen : hvs.length = es.length)
    (hel : ∀ (i : Nat) (e : Ent) (hv : Value), es[i]? = some e → hvs[i]? = some hv → e.r.Fit ∧ HostsV w hv e.hs ∧ hv.oneCell' = true ∧ (∀ s ∈ e.hs, s.length ≤ 9223372036854775807) ∧ e.hs.length ≤ 256)
    (hown : w.ownsRow bl 81 11 lv' (es.length - 1) ((((es.map (·.r)).zip hvs).eraseIdx i).flatMap entC)) : RefAt w (es.eraseIdx i) lv' (hvs.eraseIdx i) := by
  refine ⟨?_, ?_, ?_⟩
  · rw [← zip_erase, map_erase (fun e : Ent => e.r) es i] at hown
    have e2 : (es.eraseIdx i).length = es.length - 1 := by rw [List.length_eraseIdx, if_pos hi]
    rw [e2]
    exact own_base hown (Nat.zero_le _)
  · rw [List.length_eraseIdx, List.length_eraseIdx, hlen]
  · intro j e hv h1 h2
    rw [List.getElem?_eraseIdx] at h1 h2
    by_cases hj : j < i
    · rw [if_pos hj] at h1 h2
      exact hel j e hv h1 h2
    · rw [if_neg hj] at h1 h2
      exact hel (j + 1) e hv h1 h2
/-- What the reference's Remove returns. -/
def RemPost (w : World) (es : List Ent) (g : BitVec 64) (r : Rec) (e : Ending) (w' : World) : Prop :=
  ∃ lv' hvs', e = .returned (.tuple #[.agg #[lv', .int .u64 (uv (remG es g r))], .int .i64 (remE es r)]) ∧ RefAt w' (remS es r) lv' hvs' ∧ Below w.heap.size w w'
set_option maxRecDepth 20000 in
set_option maxHeartbeats 6400000 in
theorem rRemove_at (es : List Ent) (g : BitVec 64) (lv : Value) (hvs : List Value) (r : Rec) (w : World) (h : RefAt w es lv hvs) (hlen : es.length ≤ 256) :
    Calls Tryz.prog 21 #[.agg #[lv, .int .u64 (uv g)], .agg r.cells.toArray] w (RemPost w es g r) := by
  obtain ⟨al, cl, rfl⟩ : ∃ a c, lv = .slice a es.length c := own_shape h.own
  have OW := Lib.hid h.own
  obtain ⟨n, hn⟩ : ∃ n, es.length = n := ⟨_, rfl⟩
  have HN := Lib.hid hn
  rw [hn] at h hlen OW ⊢
  obtain ⟨W, hW⟩ : ∃ W, W = ((w.alloc (.cells #[.slice al n cl, .int .u64 (uv g)] 32)).alloc (.cells r.cells.toArray 37)).alloc (.cells #[.slice none 0 0, .int .u64 0] 32) := ⟨_, rfl⟩
  have D := Lib.hid (show Below w.heap.size w W by rw [hW]; exact gr_tr (gr_tr (gr_alloc w _) (gr_alloc _ _)) (gr_alloc _ _))
  have X := Lib.hid (show W.heap[w.heap.size]? = some (.cells #[.slice al n cl, .int .u64 (uv g)] 32 (0, 0)) by rw [hW]; exact blk_below (blk_below (heap_alloc_new w _) (gr_alloc _ _)) (gr_alloc _ _))
  have Y := Lib.hid (show W.heap[w.heap.size + 1]? = some (.cells #[.int .u8 (uv r.tr), .int .u8 (uv r.fa), .bool r.rf, .bool r.sc, .int .u16 (uv r.po), .int .u16 (uv r.ct), .int .u16 (uv r.qu), .string (strOf r.sv), .string (strOf r.sb), .string (strOf r.ad)] 37 (0, 0)) by rw [hW]; have h := blk_below (heap_alloc_new (w.alloc (.cells #[.slice al n cl, .int .u64 (uv g)] 32)) (.cells r.cells.toArray 37)) (gr_alloc _ (.cells #[.slice none 0 0, .int .u64 0] 32)); rw [World.size_alloc] at h; exact h)
  have Z := Lib.hid (show W.heap[w.heap.size + 2]? = some (.cells #[.slice none 0 0, .int .u64 0] 32 (0, 0)) by rw [hW]; have h := heap_alloc_new ((w.alloc (.cells #[.slice al n cl, .int .u64 (uv g)] 32)).alloc (.cells r.cells.toArray 37)) (.cells #[.slice none 0 0, .int .u64 0] 32); simpa using h)
  have WS := Lib.hid (show W.heap.size = w.heap.size + 3 by rw [hW]; simp)
  have HW := Lib.hid hW
  have RR := Lib.hid h; have HLEN := Lib.hid hlen
  obtain ⟨j, hj⟩ : ∃ j, ix es r = j := ⟨_, rfl⟩
  have ATX := Lib.hid (fun w (h : RefAt w es (.slice al n cl) hvs) => rAt_at es g _ hvs r j w h (by rw [HN.out]; exact HLEN.out) hj)
  have HJ := Lib.hid hj
  have IC := Lib.hid (ix_cases es r)
  have hcr : r.cells.toArray = #[.int .u8 (uv r.tr), .int .u8 (uv r.fa), .bool r.rf, .bool r.sc, .int .u16 (uv r.po), .int .u16 (uv r.ct), .int .u16 (uv r.qu), .string (strOf r.sv), .string (strOf r.sb), .string (strOf r.ad)] := rfl
  rw [hcr] at HW ATX ⊢
  clear hW hj h hlen hn hcr
  go_enter Tryz.func21, Tryz.ntmps21
  go_upto_region 1 with fail
  rw [← HW.out]
  clear HW
  rcases IC.out with hix | ⟨i, hix, hi⟩
  · have hj1 : j = -1 := by rw [← HJ.out]; exact hix
    subst hj1
    have HI := Lib.hid hix
    clear hix
    go_wp2_with (first
      | (refine wpList_load_row rfl 32 (.tmp 2) rfl w.heap.size rfl 32 #[.slice al n cl, .int .u64 (uv g)] (0, 0) _ X.out Tryz.underlying32 rfl (by kernel_rfl) ?_) | (refine wpList_load_row rfl 37 (.tmp 3) rfl (w.heap.size + 1) rfl 37 #[.int .u8 (uv r.tr), .int .u8 (uv r.fa), .bool r.rf, .bool r.sc, .int .u16 (uv r.po), .int .u16 (uv r.ct), .int .u16 (uv r.qu), .string (strOf r.sv), .string (strOf r.sb), .string (strOf r.ad)] (0, 0) _ Y.out Tryz.underlying37 rfl (by kernel_rfl) ?_) | (go_at_call 47; go_loud (refine (ATX.out _ (RR.out.below D.out)).mono ?_; rintro e w6 ⟨rfl, hw⟩; have C6 := Lib.hid hw; have X6 := Lib.hid (blk_below X.out hw); have Z6 := Lib.hid (blk_below Z.out hw); clear hw)) | (refine wpList_load_row rfl 32 (.tmp 2) rfl w.heap.size rfl 32 #[.slice al n cl, .int .u64 (uv g)] (0, 0) _ X6.out Tryz.underlying32 rfl (by kernel_rfl) ?_)
      | (refine wpList_store_rowC rfl 32 (.tmp 4) _ rfl (w.heap.size + 2) #[.slice al n cl, .int .u64 (uv g)] rfl rfl 32 _ Z6.out (by kernel_rfl) rfl (by simp [Value.oneCell']) ?_; intro w9 h9 hc; have Z9 := Lib.hid h9; have C9 := Lib.hid ((gr_tr D.out C6.out).trans (hc.below (fun k e => by have e' : k = w.heap.size + 2 := e; omega) (gr_tr D.out C6.out).size)); have R9 := Lib.hid ((RR.out.below (gr_tr D.out C6.out)).set Z6.out (by decide) (by decide) hc); clear h9 hc))
    exact bodyPost_ret (results_row_tmp rfl _ _ (w.heap.size + 2) 32 #[.slice al n cl, .int .u64 (uv g)] (0, 0) _ rfl Z9.out Tryz.underlying32 rfl (by kernel_rfl)) rfl ⟨.slice al n cl, hvs, by unfold remG remE; rw [HI.out, if_pos rfl, if_pos rfl]; rfl, by unfold remS; rw [HI.out, if_pos rfl]; exact R9.out, C9.out⟩
  · have hj1 : j = (i : Int) := by rw [← HJ.out]; exact hix
    subst hj1
    have HI := Lib.hid hix
    have HNE := Lib.hid (show ¬ ((i : Int) = -1) by omega)
    rw [HN.out] at hi
    have hn256 := HLEN.out
    obtain ⟨q, ca, hq⟩ : ∃ q c', (Value.slice al n cl) = .slice (some ⟨q, 0, none⟩) n c' := by
      obtain ⟨-, h⟩ := OW.out
      rcases h with ⟨h, h0⟩ | ⟨q, c, -, h, -⟩
      · omega
      · exact ⟨q, c, h⟩
    injection hq with hq1 hq2 hq3
    subst hq1; subst hq3
    obtain ⟨a', c', he, hs0, hs1, hs2, hs3⟩ := RR.out.slice
    injection he with he1 he2 he3
    subst he1; subst he3
    obtain ⟨zs, hzs⟩ : ∃ z, ((es.map (·.r)).zip hvs) = z := ⟨_, rfl⟩
    rw [hzs] at he2 hs1 hs3
    have HZS := Lib.hid hzs
    have HZL := Lib.hid he2.symm
    have ONES := Lib.hid (show ∀ v ∈ zs.flatMap entC, v.oneCell' = true by rw [← hzs]; exact RR.out.ones)
    have hcl : n ≤ cl := by rw [he2]; exact hs1
    have hclm : cl ≤ 9223372036854775807 := hs2
    obtain ⟨i0, hi0, hz0, hz1, hz2⟩ := rentsOk.info
    have hel : Tryz.prog.elem 30 = 81 := by kernel_rfl
    have ht' : Tryz.prog.underlying 30 = some (.slice (Tryz.prog.elem 30)) := by rw [hel]; exact Tryz.underlying30
    have hz : ∀ w', (sizeOf (Tryz.prog.elem 30)).run Tryz.prog w' = .ok 11 w' := fun w' => by
      rw [hel]
      simp [sizeOf, typeInfo, hi0, hz1]
    obtain ⟨A, hA, hrow⟩ : ∃ A : Addr, (if cl = i + 1 then some (⟨q, 0, none⟩ : Addr) else some ⟨q, (i + 1) * 11, none⟩) = some A ∧ Row w (some A) ((zs.flatMap entC).drop ((i + 1) * 11)) := by
      by_cases h : cl = i + 1
      · refine ⟨⟨q, 0, none⟩, by simp [h], ?_⟩
        have : (zs.flatMap entC).drop ((i + 1) * 11) = [] := by
          apply List.drop_of_length_le
          rw [flat_len (f := entC) (k := 11) entC_len, HZL.out]; omega
        rw [this]; exact .inl rfl
      · refine ⟨⟨q, (i + 1) * 11, none⟩, by simp [h], ?_⟩
        have := hs3.drop ((i + 1) * 11)
        simpa using this
    have r2 : ∀ w', (Instr.slice 30 (.slice (some ⟨q, 0, none⟩) n cl) none (some (.int .i64 (i : Int))) none).run Tryz.prog w' = .ok (.slice (some ⟨q, 0, none⟩) i cl) w' := fun w' => by
      rw [run_slice_h w' 30 (some ⟨q, 0, none⟩) n cl ht' .i64 i (by omega) (by omega), hz]
      simp [Result.andThen, sliced, Addr.add]
    have r3 : ∀ w', (Instr.slice 30 (.slice (some ⟨q, 0, none⟩) n cl) (some (.int .i64 ((i : Int) + 1))) none none).run Tryz.prog w' = .ok (.slice (some A) (n - (i + 1)) (cl - (i + 1))) w' := fun w' => by
      have h := run_slice_l w' 30 (some ⟨q, 0, none⟩) n cl ht' .i64 (i + 1) (by omega) (by omega)
      rw [hz] at h
      refine h.trans ?_
      rw [← hA]
      simp [Result.andThen, sliced, Addr.add]
    have R3 := Lib.hid r3; have RW := Lib.hid hrow
    have T3 := Lib.hid (show Row w (some ⟨q, 0, none⟩) ((zs.flatMap entC).take (i * 11)) by have := hs3.take (i * 11); exact this)
    have hwr : IntKind.i64.wrap ((i : Int) + 1) = (i : Int) + 1 := by rw [IntKind.wrap_i64]; omega
    clear hix hs0 hs1 hs2 hs3 he2 hzs hi0 hz0 hz1 hz2 hel ht' hz hA hrow r3 hq2 IC
    go_upto_region 4 with (first | (refine wpList_load_row rfl 32 (.tmp 2) rfl w.heap.size rfl 32 #[.slice (some ⟨q, 0, none⟩) n cl, .int .u64 (uv g)] (0, 0) _ X.out Tryz.underlying32 rfl (by kernel_rfl) ?_) | (refine wpList_load_row rfl 37 (.tmp 3) rfl (w.heap.size + 1) rfl 37 #[.int .u8 (uv r.tr), .int .u8 (uv r.fa), .bool r.rf, .bool r.sc, .int .u16 (uv r.po), .int .u16 (uv r.ct), .int .u16 (uv r.qu), .string (strOf r.sv), .string (strOf r.sb), .string (strOf r.ad)] (0, 0) _ Y.out Tryz.underlying37 rfl (by kernel_rfl) ?_) | (go_at_call 47; go_loud (refine (ATX.out _ (RR.out.below D.out)).mono ?_; rintro e w6 ⟨rfl, hw⟩; have C6 := Lib.hid hw; have X6 := Lib.hid (blk_below X.out hw); have Z6 := Lib.hid (blk_below Z.out hw); clear hw)))
    have x0 : w6.cell? ⟨w.heap.size, 0, none⟩ = some (.slice (some ⟨q, 0, none⟩) n cl) := (cell_of_row _ _ 0 _ _ _ X6.out).trans rfl
    go_upto_region 5 with (at_builtin; go_loud (refine app_law_at rentsOk rfl _ _ rfl W.heap.size (.slice none 0 0) 0 [] rfl (World.ownsRow_nil _ _ _ _) (some ⟨q, 0, none⟩) i cl ((zs.flatMap entC).take (i * 11)) rfl (by simp) (by omega) (T3.out.below (gr_tr D.out C6.out)) (by rw [List.length_take, flat_len (f := entC) (k := 11) entC_len, HZL.out]; omega) (fun u hu => ONES.out u (List.mem_of_mem_take hu)) (by omega) (by omega) C6.out.size ?_; intro v7 w7 ho hg ha; have hb : Below w6.heap.size w6 w7 := (Below.refl _ _).grown hg (Nat.le_refl _) (by intro k hk; cases hk); have C7 := Lib.hid (gr_tr C6.out hb); have X7 := Lib.hid (blk_below X6.out hb); have Z7 := Lib.hid (blk_below Z6.out hb); rw [Nat.zero_add, List.nil_append] at ho; obtain ⟨a7, c7, rfl⟩ := own_shape ho; have O7 := Lib.hid ho; clear ho hg ha hb))
    clear x0 r2
    have NB := Lib.hid (show ∀ k, k < W.heap.size → k ≠ w.heap.size + 2 → ¬ ((Value.slice a7 i c7).ownBlock = some k ∨ k = w.heap.size + 2) from fun k h1 h2 hB => by
      rcases hB with e | e
      · have := (O7.out.lt k e).1; omega
      · exact h2 e)
    have q0 : ∀ y : KeepT (fun k => (Value.slice a7 i c7).ownBlock = some k ∨ k = w.heap.size + 2) w7, y.val.cell? ⟨w.heap.size, 0, none⟩ = some (.slice (some ⟨q, 0, none⟩) n cl) := fun y => y.cell ((cell_of_row _ _ 0 _ _ _ X7.out).trans rfl) (NB.out _ (by have := WS.out; omega) (by omega))
    have q1 : ∀ y : KeepT (fun k => (Value.slice a7 i c7).ownBlock = some k ∨ k = w.heap.size + 2) w7, y.val.cell? ⟨w.heap.size, 1, none⟩ = some (.int .u64 (uv g)) := fun y => y.cell ((cell_of_row _ _ 1 _ _ _ X7.out).trans rfl) (NB.out _ (by have := WS.out; omega) (by omega))
    have r3 := R3.out
    refine wp_region_planW (fun k => (Value.slice a7 i c7).ownBlock = some k ∨ k = w.heap.size + 2) [(true, 0), (true, 1), (true, 2), (true, 3), (true, 4), (true, 5), (true, 7), (true, 8), (true, 9), (false, 6), (true, 10), (false, 11), (true, 12)] (by kernel_rfl) (by kernel_rfl) (by intro c a d v w h; cases d <;> exact h) ?_
    intro W1 K1 C1
    repeat (refine wpS_firm rfl (fun K hK => ?_); simp only [Keep]; go_simp; refine hK _ ?_; clear hK K)
    clear q0 q1 r3 hwr
    have CW1 := Lib.hid (C7.out.trans (C1.out.mono C7.out.size))
    have O8 := Lib.hid (own_below O7.out C1.out)
    have Z8 := Lib.hid (blk_below Z7.out C1.out)
    refine wpS_chain rfl ?_
    refine app_law_at rentsOk rfl (.tmp 19) (.tmp 24) rfl W.heap.size (.slice a7 i c7) i ((zs.flatMap entC).take (i * 11)) rfl O8.out (some A) (n - (i + 1)) (cl - (i + 1)) ((zs.flatMap entC).drop ((i + 1) * 11)) rfl (by simp) (by omega) (RW.out.below (gr_tr D.out CW1.out)) (by rw [List.length_drop, flat_len (f := entC) (k := 11) entC_len, HZL.out]; omega) (fun u hu => ONES.out u (List.mem_of_mem_drop hu)) (by omega) (by omega) CW1.out.size ?_
    intro lv' w10 ho hg ha
    rw [show i + (n - (i + 1)) = n - 1 by omega, flatM_erase (k := 11) entC_len] at ho
    have O10 := Lib.hid ho
    have K10 := Lib.hid (K1.out.grownW hg (fun k hk => .inl hk))
    have D10 := Lib.hid ((gr_tr D.out CW1.out).grown hg (gr_tr D.out CW1.out).size (fun k hk => by have := (O8.out.lt k hk).1; have := WS.out; omega))
    have Z10 := Lib.hid ((hg.block _ (Array.getElem?_eq_some_iff.1 Z8.out).1 (fun e => by have := (O8.out.lt _ e.symm).1; have := WS.out; omega)).trans Z8.out)
    obtain ⟨al', cl', rfl⟩ := own_shape O10.out
    clear ho hg ha
    refine ⟨K10.out, ?_⟩
    (refine wpS_firm rfl (fun K hK => ?_); simp only [Keep]; go_simp; refine hK _ ?_; clear hK K)
    refine wpS_chain rfl ?_
    refine wpList_store_rowC rfl 32 (.tmp 4) (.tmp 29) rfl (w.heap.size + 2) #[.slice al' (n - 1) cl', .int .u64 (uv (g + 1#64))] rfl rfl 32 _ Z10.out (by kernel_rfl) rfl (by simp [Value.oneCell']) ?_
    intro w11 h11 hc
    have Z11 := Lib.hid h11
    have K11 := Lib.hid (K10.out.chgK hc (fun k hk => .inl (.inr hk)))
    have D11 := Lib.hid (D10.out.trans (hc.below (fun k e => by have e' : k = w.heap.size + 2 := e; omega) D10.out.size))
    have O11 := Lib.hid (own_chg O10.out hc (fun k hk e => by have e' : k = w.heap.size + 2 := e; have := (O10.out.lt k hk).1; have := WS.out; omega))
    clear h11 hc
    go_wp2
    refine ⟨K11.out, ?_⟩
    (refine wpS_firm rfl (fun K hK => ?_); simp only [Keep]; go_simp; refine hK _ ?_; clear hK K)
    unfold wpS
    go_wp2
    have RF := RR.out.below D11.out
    have hfin := RefAt.erased (lv' := .slice al' (n - 1) cl') i (by rw [HN.out]; exact hi) RF.len RF.el (by rw [HN.out, HZS.out]; exact O11.out)
    exact bodyPost_ret (results_row_tmp rfl _ _ (w.heap.size + 2) 32 #[.slice al' (n - 1) cl', .int .u64 (uv (g + 1#64))] (0, 0) _ rfl Z11.out Tryz.underlying32 rfl (by kernel_rfl)) rfl ⟨.slice al' (n - 1) cl', _, by unfold remG remE; rw [HI.out, if_neg HNE.out, if_neg HNE.out]; rfl, by unfold remS; rw [HI.out, if_neg HNE.out]; exact hfin, D11.out⟩
end Go.Proofs.YtjcgdenkmmgmfaaGreatDoor
namespace Go.Proofs.YtjcgdenkmmgmfaaGreatDoor
open Go.RowKit Dsc
set_option linter.unusedVariables false
set_option linter.unusedSimpArgs false
attribute [local go_sem] Oper.semAt_some
namespace Dsc
/-- Whether a host may see, after j of the hosts. -/
def mayT (hs : List (List (BitVec 8))) (host : List (BitVec 8)) (j : Nat) : Bool := decide (hs.length = 0) || decide (host ∈ hs.take j)
theorem mayT_more {hs : List (List (BitVec 8))} {host s : List (BitVec 8)} {j : Nat} (h : hs[j]? = some s) : mayT hs host (j + 1) = (mayT hs host j || (s == host)) := by
  unfold mayT
  have e : hs.take (j + 1) = hs.take j ++ [s] := by
    obtain ⟨hlt, hv⟩ := List.getElem?_eq_some_iff.1 h
    rw [List.take_succ_eq_append_getElem hlt, hv]
  rw [e, Bool.eq_iff_iff]
  simp only [Bool.or_eq_true, decide_eq_true_eq, List.mem_append, List.mem_singleton, beq_iff_eq]
  constructor
  · rintro (h | h | h)
    · exact .inl (.inl h)
    · exact .inl (.inr h)
    · exact .inr h.symm
  · rintro ((h | h) | h)
    · exact .inl h
    · exact .inr (.inl h)
    · exact .inr (.inr h.symm)
theorem mayT_full (hs : List (List (BitVec 8))) (host : List (BitVec 8)) : mayT hs host hs.length = mayB hs host := by
  unfold mayT mayB; rw [List.take_length]
theorem mayT_none (hs : List (List (BitVec 8))) (host : List (BitVec 8)) : mayT hs host 0 = decide (hs.length = 0) := by
  unfold mayT; simp
end Dsc
set_option maxRecDepth 20000 in
set_option maxHeartbeats 6400000 in
theorem rSeen_at (es : List Ent) (g : BitVec 64) (lv : Value) (hvs : List Value) (host : List (BitVec 8)) (E : Int) (L : List Rec) (w : World) (h : RefAt w es lv hvs) (hlen : es.length ≤ 256) (hl : host.length ≤ 9223372036854775807) (hE : seenE host = E) (hL : seenR es host = L) :
    Calls Tryz.prog 35 #[.agg #[lv, .int .u64 (uv g)], .string (strOf host)] w fun e w' => ∃ a c, e = .returned (.tuple #[.slice a L.length c, .int .i64 E]) ∧ SliceV w' Dsc.Rec.cells (.slice a L.length c) L ∧ Below w.heap.size w w' := by
  obtain ⟨al, cl, rfl⟩ : ∃ a c, lv = .slice a es.length c := own_shape h.own
  obtain ⟨n, hn⟩ : ∃ n, es.length = n := ⟨_, rfl⟩
  have HN := Lib.hid hn
  rw [hn] at h hlen ⊢
  obtain ⟨W, hW⟩ : ∃ W, W = w.alloc (.cells #[.slice al n cl, .int .u64 (uv g)] 32) := ⟨_, rfl⟩
  have D := Lib.hid (show Below w.heap.size w W by rw [hW]; exact gr_alloc w _)
  have X := Lib.hid (show W.heap[w.heap.size]? = some (.cells #[.slice al n cl, .int .u64 (uv g)] 32 (0, 0)) by rw [hW]; exact heap_alloc_new w _)
  have HW := Lib.hid hW
  have RR := Lib.hid h
  have SS := Lib.hid h.slice
  obtain ⟨b, hb⟩ : ∃ b, nmOk host = b := ⟨_, rfl⟩
  have NM := Lib.hid (fun w => rName_at host b w hl hb)
  have BEQ := Lib.hid (fun s => strOf_beq s host)
  obtain ⟨st, hst⟩ : ∃ s, strOf host = s := ⟨_, rfl⟩
  rw [hst] at NM BEQ ⊢
  have HB := Lib.hid hb; have HL := Lib.hid hL; have HE := Lib.hid hE
  clear hW h hl hE hL hb hst hn
  go_enter Tryz.func35, Tryz.ntmps35
  go_upto_region 1 with fail
  rw [← HW.out]
  clear HW
  cases b
  · have hE : E = 2 := by rw [← HE.out]; unfold seenE; rw [HB.out]; rfl
    have hL : L = [] := by rw [← HL.out]; unfold seenR; rw [HB.out]; rfl
    subst hE; subst hL
    go_wp2_with (go_at_call 45; go_loud (refine (NM.out _).mono ?_; rintro e w4 ⟨rfl, hw⟩; have D4 := Lib.hid (gr_tr D.out hw); clear hw))
    go_ret2
    exact ⟨none, 0, rfl, SliceV.nilV _, D4.out⟩
  · have hE : E = 0 := by rw [← HE.out]; unfold seenE; rw [HB.out]; rfl
    subst hE
    have HLL := Lib.hid (show seenL es host = L by rw [← HL.out]; unfold seenR; rw [HB.out]; rfl)
    go_wp2_with (go_at_call 45; go_loud (refine (NM.out _).mono ?_; rintro e w4 ⟨rfl, hw⟩; have C4 := Lib.hid hw; clear hw))
    go_loopw [6, 7] (fun u i wr => ∃ k m : Nat, k ≤ n ∧ m ≤ k ∧ i = .int .i64 k ∧ Hid ((seenL (es.take k) host).length = m) ∧ wr.ownsRow W.heap.size 37 10 u m ((seenL (es.take k) host).flatMap Dsc.Rec.cells) ∧ Below W.heap.size W wr) (fun _ i _ => n - (intOf i).toNat)
    case atStart => exact ⟨0, 0, by omega, by omega, rfl, Lib.hid rfl, World.ownsRow_nil _ _ _ _, C4.out⟩
    case round =>
      obtain ⟨k, m, hk, hmk, rfl, hm, hown, hb⟩ := hrel
      have C := Lib.hid hb; have O := Lib.hid hown
      have XK := Lib.hid (blk_below X.out hb)
      have x0 : wr.cell? ⟨w.heap.size, 0, none⟩ = some (.slice al n cl) := (cell_of_row _ _ 0 _ _ _ XK.out).trans rfl
      clear hb hown
      by_cases hlt : k < n
      · obtain ⟨e, he⟩ : ∃ e, es[k]? = some e := ⟨_, List.getElem?_eq_getElem (by rw [HN.out]; exact hlt)⟩
        obtain ⟨hv, h1, h2⟩ := RR.out.get k e he
        obtain ⟨gq, o, cq, he1, hr1⟩ := SliceV.rng entC_len SS.out k (e.r, hv) h2 (by decide)
        injection he1 with he1 he1' he1''
        subst he1; subst he1''
        have R1 := Lib.hid (show w.rangeAt gq (o + k * 11) (Array.toList #[.int .u8 (uv e.r.tr), .int .u8 (uv e.r.fa), .bool e.r.rf, .bool e.r.sc, .int .u16 (uv e.r.po), .int .u16 (uv e.r.ct), .int .u16 (uv e.r.qu), .string (strOf e.r.sv), .string (strOf e.r.sb), .string (strOf e.r.ad)]) from rng_sub0 hr1)
        have c10 : w.cell? ⟨gq, o + k * 11 + 10, none⟩ = some hv := hr1 10 hv rfl
        obtain ⟨y1, y2, y3, y4, y5⟩ := RR.out.el k e hv he h1
        have HS := Lib.hid (SliceV.of_own (f := strC) (k := 1) (by decide) (fun _ => rfl) (xs := e.hs) y2)
        obtain ⟨ah, ch, hsh⟩ := own_shape y2
        obtain ⟨nh, hnh⟩ : ∃ x, e.hs.length = x := ⟨_, rfl⟩
        rw [hnh] at hsh y5
        rw [hsh] at HS c10
        have HNH := Lib.hid hnh
        have CC := Lib.hid c10
        have c11 := below_cellE (gr_tr D.out C.out) c10
        have SM := Lib.hid (seenL_more (host := host) he)
        clear he h1 h2 hr1 he1' y1 y2 y3 y4 hsh hnh c10
        obtain ⟨b0, hb0⟩ : ∃ b, mayT e.hs host 0 = b := ⟨_, rfl⟩
        have hb00 : ((nh : Int) == 0) = b0 := by
          rw [← hb0, mayT_none, HNH.out]
          rw [Bool.eq_iff_iff]; simp
        have HB0 := Lib.hid hb0
        clear hb0
        go_wp2
        clear hb00
        go_loopw [8, 9] (fun u i wr2 => ∃ (j : Nat) (bj : Bool), j ≤ nh ∧ i = .int .i64 j ∧ u = .bool bj ∧ Hid (mayT e.hs host j = bj) ∧ wr = wr2) (fun _ i _ => nh - (intOf i).toNat)
        case atStart => exact ⟨0, b0, by omega, rfl, rfl, HB0, rfl⟩
        case round =>
          obtain ⟨j, bj, hj, rfl, rfl, hmj, rfl⟩ := hrel
          by_cases hlj : j < nh
          · obtain ⟨s, hs1⟩ : ∃ s, e.hs[j]? = some s := ⟨_, List.getElem?_eq_getElem (by rw [HNH.out]; exact hlj)⟩
            obtain ⟨g2, o2, c2', he, hc⟩ := str_rng HS.out j s hs1
            injection he with he he' he''
            subst he; subst he''
            have hc2 := below_cellE (gr_tr D.out C.out) hc
            have TM := Lib.hid (mayT_more (host := host) hs1)
            have hbe := BEQ.out s
            obtain ⟨bq, hbq⟩ : ∃ b, (s == host) = b := ⟨_, rfl⟩
            rw [hbq] at hbe TM
            obtain ⟨ss, hss⟩ : ∃ x, strOf s = x := ⟨_, rfl⟩
            rw [hss] at hbe hc2
            clear hs1 hc he' hss hbq
            cases bj
            · go_wp2
              go_roundw
              case rel => exact ⟨j + 1, bq, by omega, by go_num, rfl, Lib.hid (by rw [TM.out, hmj.out]; rfl), trivial⟩
              case measure => simp [intOf]; omega
            · go_wp2
              go_roundw
              case rel => exact ⟨j + 1, true, by omega, by go_num, rfl, Lib.hid (by rw [TM.out, hmj.out]; rfl), trivial⟩
              case measure => simp [intOf]; omega
          · obtain rfl : nh = j := by omega
            have HMB := Lib.hid (show mayB e.hs host = bj by rw [← mayT_full, HNH.out]; exact hmj.out)
            have R2 := Lib.hid (rng_below R1.out (gr_tr D.out C.out))
            cases bj
            · have ST := Lib.hid (show seenL (es.take (k + 1)) host = seenL (es.take k) host by rw [SM.out, HMB.out]; simp)
              go_wp2
              go_roundw
              case rel => exact ⟨k + 1, m, by omega, by omega, by go_num, Lib.hid (by rw [ST.out]; exact hm.out), by rw [ST.out]; exact O.out, C.out⟩
              case measure => simp [intOf]; omega
            · have ST := Lib.hid (show seenL (es.take (k + 1)) host = seenL (es.take k) host ++ [e.r] by rw [SM.out, HMB.out]; simp)
              have hm256 : m ≤ 256 := by omega
              go_wp2_with (first
                | (refine wpList_load_mid rfl 37 (.tmp 59) rfl gq (o + k * 11) rfl (Array.toList #[.int .u8 (uv e.r.tr), .int .u8 (uv e.r.fa), .bool e.r.rf, .bool e.r.sc, .int .u16 (uv e.r.po), .int .u16 (uv e.r.ct), .int .u16 (uv e.r.qu), .string (strOf e.r.sv), .string (strOf e.r.sb), .string (strOf e.r.ad)]) _ R2.out Tryz.underlying37 rfl (by kernel_rfl) ?_)
                | (at_builtin; go_loud (refine app_law_at recsOk rfl (.tmp 54) (.tmp 61) rfl W.heap.size _ m _ rfl (own_below O.out (gr_alloc _ _)) (some ⟨wr.heap.size, 0, none⟩) 1 1 e.r.cells rfl (by simp) (by omega) (Row.lit wr #[.int .u8 (uv e.r.tr), .int .u8 (uv e.r.fa), .bool e.r.rf, .bool e.r.sc, .int .u16 (uv e.r.po), .int .u16 (uv e.r.ct), .int .u16 (uv e.r.qu), .string (strOf e.r.sv), .string (strOf e.r.sb), .string (strOf e.r.ad)] 37 (0, 0)) rfl (by simp [Dsc.Rec.cells, Value.oneCell']) (by omega) (by omega) (by have := C.out.size; have := (gr_alloc wr (.cells #[.int .u8 (uv e.r.tr), .int .u8 (uv e.r.fa), .bool e.r.rf, .bool e.r.sc, .int .u16 (uv e.r.po), .int .u16 (uv e.r.ct), .int .u16 (uv e.r.qu), .string (strOf e.r.sv), .string (strOf e.r.sb), .string (strOf e.r.ad)] 37)).size; simp; omega) ?_; intro v6 w6 ho hg ha; have O6 := Lib.hid ho; have C6 := Lib.hid ((C.out.trans ((gr_alloc wr _).mono C.out.size)).grown hg (by have := C.out.size; simp; omega) (fun j hj => (O.out.lt j hj).1)); clear ho hg ha)))
              go_roundw
              case rel => exact ⟨k + 1, m + 1, by omega, by omega, by go_num, Lib.hid (by rw [ST.out, List.length_append, hm.out]; rfl), by rw [ST.out, List.flatMap_append]; simpa using O6.out, C6.out⟩
              case measure => simp [intOf]; omega
      · obtain rfl : n = k := by omega
        have ht : seenL (es.take n) host = L := by rw [List.take_of_length_le (by rw [HN.out]; exact Nat.le_refl _)]; exact HLL.out
        rw [ht] at O hm
        have HML := hm.out
        have SL := Lib.hid (SliceV.of_own (f := Dsc.Rec.cells) (k := 10) (by decide) (fun _ => rfl) (xs := L) (by rw [HML]; exact O.out))
        obtain ⟨a6, c6, rfl⟩ := own_shape O.out
        have HM2 := Lib.hid HML
        clear ht HML
        go_wp2
        go_ret2
        rw [← HM2.out] at SL ⊢
        exact ⟨a6, c6, rfl, SL.out, gr_tr D.out C.out⟩
end Go.Proofs.YtjcgdenkmmgmfaaGreatDoor
