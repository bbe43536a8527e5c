/- The walk of capsulelaw24.known: the examples of the chapter. Printed by genlaw24a.py. -/
import Derived.Test.YthnnopjakpjoeaaDoorIdIDs
import Derived.Test.YthnnopjakpjoeaaDoorIdList
namespace Go.Proofs.YthnnopjakpjoeaaDoor
open Go.RowKit Idn Rise
set_option linter.unusedVariables false
set_option linter.unusedSimpArgs false
namespace Idn
def exC : Ctl := ⟨258#16, 0#16, 0#8, 0#16, 0#32, 0#16, 0#8, 0#8, 0#8, 0#8, 0#8, 0#8, 0#16, 0#8, 0#8, 0#16, 0#32, 0#16, 0#8, 0#16, 0#16, 0#32, [83#8, 49#8], [], [], [110#8]⟩
def exCB : List (BitVec 8) := ctlB exC
def exI : Ids := ⟨[1#8, 2#8, 3#8, 4#8, 5#8, 6#8, 7#8, 8#8], List.replicate 16 0#8, List.replicate 16 0#8, 3#8⟩
def exIB : List (BitVec 8) := idsB exI
def exAB : List (BitVec 8) := actB [1#32, 5#32, 9#32] 1#32
theorem exC_ok : ctlOk exC = true := by decide +kernel
theorem exC_cells : exCB[0]? = some 2#8 ∧ exCB[1]? = some 1#8 ∧ exCB[768]? = some 110#8 ∧ exCB[769]? = some 0#8 ∧ (exCB.take 7).drop 4 = [83#8, 49#8, 32#8] := by decide +kernel
theorem ctlB_len (x : Ctl) (h : ctlOk x = true) : (ctlB x).length = 4096 := by
  unfold ctlOk at h
  simp only [Bool.and_eq_true] at h
  obtain ⟨⟨⟨h1, h2⟩, h3⟩, h4⟩ := h
  have l1 := nameOk_len h1; have l2 := nameOk_len h2; have l3 := nameOk_len h3; have l4 := nameOk_len h4
  unfold ctlB
  rw [Lay.lays_len, zeros_len]
  intro q hq
  rcases List.mem_append.1 hq with hq | hq
  · exact (ctlFs_in x q hq).2
  · rw [zeros_len]
    unfold ctlTs at hq
    simp only [List.mem_cons, List.not_mem_nil, or_false] at hq
    rcases hq with rfl | rfl | rfl | rfl
    · show 4 + (fill x.serial 20 32#8).length ≤ 4096; rw [fill_len l1]; omega
    · show 24 + (fill x.model 40 32#8).length ≤ 4096; rw [fill_len l2]; omega
    · show 64 + (fill x.revision 8 32#8).length ≤ 4096; rw [fill_len l3]; omega
    · show 768 + x.name.length ≤ 4096; omega
theorem exCB_len : exCB.length = 4096 := ctlB_len exC exC_ok
theorem exI_ok : Ids.Ok exI := ⟨rfl, by simp [exI], by simp [exI]⟩
theorem idsB_len (x : Ids) (h : Ids.Ok x) : (idsB x).length = 4096 := by
  have := idsO_len x h 4
  unfold idsB; rw [List.length_append, List.length_replicate]; omega
theorem exI_cells : exIB.take 17 = [1#8, 8#8, 0#8, 0#8, 1#8, 2#8, 3#8, 4#8, 5#8, 6#8, 7#8, 8#8, 4#8, 1#8, 0#8, 0#8, 2#8] := by decide +kernel
theorem exA_cells : exAB.take 12 = [5#8, 0#8, 0#8, 0#8, 9#8, 0#8, 0#8, 0#8, 0#8, 0#8, 0#8, 0#8] := by decide +kernel
theorem exA_ok : OkL [1#32, 5#32, 9#32] := by
  refine ⟨fun t a b h1 h2 => ?_, fun x h => ?_⟩
  · match t, h1, h2 with
    | 0, h1, h2 => simp at h1 h2; subst h1; subst h2; decide
    | 1, h1, h2 => simp at h1 h2; subst h1; subst h2; decide
    | t + 2, h1, h2 => simp at h2
  · simp at h; subst h; decide
end Idn
theorem kn_ctl (w : World) : Calls Tryd.prog 32 #[.agg #[.int .u16 258, .int .u16 0, .int .u8 0, .int .u16 0, .int .u32 0, .int .u16 0, .int .u8 0, .int .u8 0, .int .u8 0, .int .u8 0, .int .u8 0, .int .u8 0, .int .u16 0, .int .u8 0, .int .u8 0, .int .u16 0, .int .u32 0, .int .u16 0, .int .u8 0, .int .u16 0, .int .u16 0, .int .u32 0, .string ⟨#[83, 49]⟩, .string ⟨#[]⟩, .string ⟨#[]⟩, .string ⟨#[110]⟩]] w fun e w' => ∃ u, e = .returned (.tuple #[u, .int .i64 0]) ∧ BytesV w' u exCB ∧ Below w.heap.size w w' := by
  have h := EncC_at exC w ⟨by decide, by decide, by decide, by decide⟩
  have e1 : ctlE exC = 0 := by unfold ctlE; rw [exC_ok]; rfl
  have e2 : ctlR exC = exCB := by unfold ctlR; rw [if_pos exC_ok]; rfl
  rw [e1, e2] at h
  exact h
set_option maxRecDepth 20000 in
theorem kn_ns (cs : Array Value) (h4 : cs[4]? = some (.int .u8 1)) (h5 : cs[5]? = some (.int .u8 2)) (w : World) : Calls Tryd.prog 33 #[.agg cs] w fun e w' => e = .returned (.tuple #[.slice none 0 0, .int .i64 2]) ∧ Below w.heap.size w w' := by
  obtain ⟨W, hW⟩ : ∃ W, W = w.alloc (.cells cs 71) := ⟨_, rfl⟩
  have c4 : W.cell? ⟨w.heap.size, 4, none⟩ = some (.int .u8 1) := by rw [hW]; exact (cell_of_row _ _ 4 _ _ _ (heap_alloc_new w _)).trans h4
  have c5 : W.cell? ⟨w.heap.size, 5, none⟩ = some (.int .u8 2) := by rw [hW]; exact (cell_of_row _ _ 5 _ _ _ (heap_alloc_new w _)).trans h5
  have D := Lib.hid (show Below w.heap.size w W by rw [hW]; exact gr_alloc w _)
  have HW := Lib.hid hW; clear hW h4 h5
  go_enter Tryd.func33, Tryd.ntmps33
  go_upto_region 1 with (fail)
  rw [← HW.out]
  go_wp2
  go_ret2
  exact ⟨rfl, D.out⟩
set_option maxRecDepth 20000 in
theorem kn_ids (w : World) : Calls Tryd.prog 38 #[.agg #[.int .u8 1, .int .u8 2, .int .u8 3, .int .u8 4, .int .u8 5, .int .u8 6, .int .u8 7, .int .u8 8, .int .u8 0, .int .u8 0, .int .u8 0, .int .u8 0, .int .u8 0, .int .u8 0, .int .u8 0, .int .u8 0, .int .u8 0, .int .u8 0, .int .u8 0, .int .u8 0, .int .u8 0, .int .u8 0, .int .u8 0, .int .u8 0, .int .u8 0, .int .u8 0, .int .u8 0, .int .u8 0, .int .u8 0, .int .u8 0, .int .u8 0, .int .u8 0, .int .u8 0, .int .u8 0, .int .u8 0, .int .u8 0, .int .u8 0, .int .u8 0, .int .u8 0, .int .u8 0, .int .u8 3]] w fun e w' => ∃ u, e = .returned u ∧ BytesV w' u exIB ∧ Below w.heap.size w w' :=
  EncI_at exI w exI_ok
theorem kn_act (v : Value) (w : World) (hv : SliceV w (fun y : BitVec 32 => [Value.int .u32 (uv y)]) v [1#32, 5#32, 9#32]) : Calls Tryd.prog 67 #[v, .int .u32 1] w fun e w' => ∃ g, e = .returned (.tuple #[.slice (some ⟨g, 0, none⟩) 4096 4096, .int .i64 0]) ∧ BytesV w' (.slice (some ⟨g, 0, none⟩) 4096 4096) exAB ∧ Below w.heap.size w w' :=
  (Act_ok v [1#32, 5#32, 9#32] 1#32 w hv (by simp) exA_ok).mono fun e w' ⟨g, h1, h2, h3⟩ => ⟨g, h1, h2.bytes, h3⟩
set_option maxHeartbeats 3200000 in
set_option maxRecDepth 100000 in
theorem known_any (w : World) : Calls Tryd.prog 20 #[] w fun e w' => e = .returned (.bool true) ∧ Below w.heap.size w w' := by
  go_enter Tryd.func20, Tryd.ntmps20
  go_upto_region 5 with (first
    | (go_at_call 32; go_loud (refine (kn_ctl _).mono ?_; rintro r w1 ⟨u1, rfl, hu, hw⟩; have A := Lib.hid hu; have B := Lib.hid hw; clear hu hw))
    | (go_at_call 33; go_loud (refine (kn_ns _ rfl rfl _).mono ?_; rintro r w2 ⟨rfl, hw⟩; replace A := Lib.hid (A.out.below hw); replace B := Lib.hid (gr_tr B.out hw); clear hw))
    | (go_at_call 38; go_loud (refine (kn_ids _).mono ?_; rintro r w3 ⟨u3, rfl, hu, hw⟩; replace A := Lib.hid (A.out.below hw); have I := Lib.hid hu; replace B := Lib.hid (gr_tr B.out hw); clear hu hw))
    | (go_at_call 67; go_loud (refine (kn_act _ _ (SliceV.of_cells w3 [1#32, 5#32, 9#32] #[.int .u32 1, .int .u32 5, .int .u32 9] 24 3 rfl (by omega) rfl)).mono ?_; rintro r w4 ⟨g4, rfl, hu, hw⟩; replace hw := gr_tr (gr_alloc w3 (.cells #[.int .u32 1, .int .u32 5, .int .u32 9] 24)) hw; replace A := Lib.hid (A.out.below hw); replace I := Lib.hid (I.out.below hw); have L := Lib.hid hu; replace B := Lib.hid (gr_tr B.out hw); clear hu hw)))
  obtain ⟨ga, oa, ca, rfl⟩ := A.out.shapeAt (by have := exCB_len; omega)
  obtain ⟨x0, x1, x768, x769, xs⟩ := exC_cells
  have a0 := A.out.cellAt x0; have a1 := A.out.cellAt x1; have a2 := A.out.cellAt x768; have a3 := A.out.cellAt x769
  obtain ⟨ua, hua, hra, -⟩ := A.out.cut (P := Tryd.prog) (T := 22) Tryd.underlying22 bszU 4 7 (by omega) (by have := exCB_len; omega)
  rw [xs] at hua
  have sa := run_string hua
  rw [show strOf [83#8, 49#8, 32#8] = ⟨#[83, 49, 32]⟩ from rfl] at sa
  obtain ⟨gi, oi, ci, rfl⟩ := I.out.shapeAt (by have := idsB_len exI exI_ok; unfold exIB; omega)
  obtain ⟨ui, hui, -, hri⟩ := I.out.cut (P := Tryd.prog) (T := 22) Tryd.underlying22 bszU 0 17 (by omega) (by have := idsB_len exI exI_ok; unfold exIB; omega)
  rw [List.drop_zero, exI_cells] at hui
  have si := run_string hui
  rw [show strOf [1#8, 8#8, 0#8, 0#8, 1#8, 2#8, 3#8, 4#8, 5#8, 6#8, 7#8, 8#8, 4#8, 1#8, 0#8, 0#8, 2#8] = ⟨#[1, 8, 0, 0, 1, 2, 3, 4, 5, 6, 7, 8, 4, 1, 0, 0, 2]⟩ from rfl] at si
  have hl : exAB.length = 4096 := by obtain ⟨a, c, h, _⟩ := L.out; injection h
  have L2 := L.out
  obtain ⟨ul, hul, -, hrl⟩ := L2.cut (P := Tryd.prog) (T := 22) Tryd.underlying22 bszU 0 12 (by omega) (by omega)
  rw [List.drop_zero, exA_cells] at hul
  have sl := run_string hul
  rw [show strOf [5#8, 0#8, 0#8, 0#8, 9#8, 0#8, 0#8, 0#8, 0#8, 0#8, 0#8, 0#8] = ⟨#[5, 0, 0, 0, 9, 0, 0, 0, 0, 0, 0, 0]⟩ from rfl] at sl
  have hri2 := hri rfl
  have hrl2 := hrl rfl
  clear hri hrl
  rw [exCB_len] at hra ⊢
  rw [show exIB.length = 4096 from idsB_len exI exI_ok] at hri2 ⊢
  clear x0 x1 x768 x769 xs hua hui hul hl L2
  replace hra : ∀ w' : World, (Instr.slice 22 (.slice (some ⟨ga, oa, none⟩) 4096 ca) (some (.int .i64 4)) (some (.int .i64 7)) none).run Tryd.prog w' = .ok ua w' := hra
  replace hri2 : ∀ w' : World, (Instr.slice 22 (.slice (some ⟨gi, oi, none⟩) 4096 ci) none (some (.int .i64 17)) none).run Tryd.prog w' = .ok ui w' := hri2
  replace hrl2 : ∀ w' : World, (Instr.slice 22 (.slice (some ⟨g4, 0, none⟩) 4096 4096) none (some (.int .i64 12)) none).run Tryd.prog w' = .ok ul w' := hrl2
  replace a0 : w4.cell? ⟨ga, oa, none⟩ = some (.int .u8 2) := a0
  replace a1 : w4.cell? ⟨ga, oa + 1, none⟩ = some (.int .u8 1) := a1
  replace a2 : w4.cell? ⟨ga, oa + 768, none⟩ = some (.int .u8 110) := a2
  replace a3 : w4.cell? ⟨ga, oa + 769, none⟩ = some (.int .u8 0) := a3
  go_wp2
  go_ret
  exact ⟨rfl, B.out⟩
end Go.Proofs.YthnnopjakpjoeaaDoor
