/- Merged: FwV, Law26N, FwAG, FwAH, FwAI, FwAct, FwAJ, FwAK, FwAL, FwAM, FwLp. -/
import Derived.Test.YtabfmhlhdebcpaaGreatDoorFwM3
import Derived.LoopN
import Derived.Test.YtabfmhlhdebcpaaGreatDoorFwM4
namespace Go.Proofs.YtabfmhlhdebcpaaGreatDoor
open Go.RowKit Go.Shelf Fw
set_option linter.unusedVariables false
set_option linter.unusedSimpArgs false
attribute [local go_sem] Oper.semAt_some
def NilV (w : World) (v : Value) : Prop := v = .pointer none ∨ ∃ p, v = .pointer (some ⟨p, 0, none⟩) ∧ w.cell? ⟨p, 0, none⟩ = some (.int .i64 0)
theorem NilV.below {w w' : World} {v : Value} (h : NilV w v) (hb : Below w.heap.size w w') : NilV w' v := by
  rcases h with h | ⟨p, h1, h3⟩
  · exact .inl h
  · exact .inr ⟨p, h1, below_cellE hb h3⟩
theorem none_any (v : Value) (w : World) (h : NilV w v) :
    Calls Tryz.prog 40 #[v] w fun e w' => e = .returned (.bool true) ∧ w = w' := by
  rcases h with rfl | ⟨p, rfl, h3⟩
  · exact none_nil w
  · exact none_zero p w h3
theorem Reset_nil (v : Value) (w : World) (h : NilV w v) :
    Calls Tryz.prog 24 #[v] w fun e w' => e = .returned (.tuple #[.bool false, .int .i64 1]) ∧ w = w' := by
  have NON := Lib.hid (fun w h => none_any v w h)
  have N1 := Lib.hid h
  clear h
  go_enter Tryz.func24, Tryz.ntmps24
  go_wp2_with (go_at_call 40; go_loud (refine (NON.out _ N1.out).mono ?_; rintro e w1 ⟨rfl, rfl⟩))
  go_ret2
  exact ⟨rfl, rfl⟩
theorem Copy_nil (v : Value) (w : World) (h : NilV w v) :
    Calls Tryz.prog 26 #[v] w fun e w' => e = .returned (.pointer none) ∧ w = w' := by
  have NON := Lib.hid (fun w h => none_any v w h)
  have N1 := Lib.hid h
  clear h
  go_enter Tryz.func26, Tryz.ntmps26
  go_wp2_with (go_at_call 40; go_loud (refine (NON.out _ N1.out).mono ?_; rintro e w1 ⟨rfl, rfl⟩))
  go_ret
  exact ⟨rfl, rfl⟩
set_option maxRecDepth 20000 in
theorem Download_nil (v x d : Value) (w : World) (h : NilV w v) :
    Calls Tryz.prog 21 #[v, x, d] w fun e w' => e = .returned (.agg (stC 6)) ∧ Below w.heap.size w w' := by
  have NON := Lib.hid (fun w h => none_any v w h)
  obtain ⟨W, hW⟩ : ∃ W, W = w.alloc (.cells #[.int .u8 0, .int .u8 0, .bool false, .bool false] 56) := ⟨_, rfl⟩
  have D := Lib.hid (show Below w.heap.size w W by rw [hW]; exact gr_alloc w _)
  have X := Lib.hid (show W.heap[w.heap.size]? = some (.cells #[.int .u8 0, .int .u8 0, .bool false, .bool false] 56 (0, 0)) by rw [hW]; exact heap_alloc_new w _)
  have HW := Lib.hid hW
  have N1 := Lib.hid (h.below D.out)
  clear hW h
  go_enter Tryz.func21, Tryz.ntmps21
  go_upto_region 1 with fail
  rw [← HW.out]
  go_wp2_with (first | (go_at_call 40; go_loud (refine (NON.out _ N1.out).mono ?_; rintro e w1 ⟨rfl, rfl⟩)) | (go_at_call 41; go_loud (refine (status_at 6 _ Kn.k6).mono ?_; rintro e w1 ⟨rfl, hb⟩; have X1 := Lib.hid (blk_below X.out hb); have D1 := Lib.hid (gr_tr D.out hb); clear hb)) | (refine wpList_store_rowC rfl 56 (.tmp 6) (.tmp 15) rfl w.heap.size (stC 6) rfl rfl 56 _ X1.out (by kernel_rfl) rfl (stC_one _) ?_; intro w9 h9 hc; have X9 := Lib.hid h9; have C9 := Lib.hid hc; clear h9 hc))
  exact bodyPost_ret (results_cell_row rfl _ _ w.heap.size 56 _ (0, 0) _ rfl X9.out Tryz.underlying56 rfl (by kernel_rfl)) rfl ⟨rfl, Chg.fresh C9.out D1.out (fun k hk => by obtain rfl : k = w.heap.size := hk; exact Nat.le_refl _)⟩
set_option maxRecDepth 20000 in
theorem Commit_nil (v x d : Value) (w : World) (h : NilV w v) :
    Calls Tryz.prog 22 #[v, x, d] w fun e w' => e = .returned (.agg (stC 6)) ∧ Below w.heap.size w w' := by
  have NON := Lib.hid (fun w h => none_any v w h)
  obtain ⟨W, hW⟩ : ∃ W, W = w.alloc (.cells #[.int .u8 0, .int .u8 0, .bool false, .bool false] 56) := ⟨_, rfl⟩
  have D := Lib.hid (show Below w.heap.size w W by rw [hW]; exact gr_alloc w _)
  have X := Lib.hid (show W.heap[w.heap.size]? = some (.cells #[.int .u8 0, .int .u8 0, .bool false, .bool false] 56 (0, 0)) by rw [hW]; exact heap_alloc_new w _)
  have HW := Lib.hid hW
  have N1 := Lib.hid (h.below D.out)
  clear hW h
  go_enter Tryz.func22, Tryz.ntmps22
  go_upto_region 1 with fail
  rw [← HW.out]
  go_wp2_with (first | (go_at_call 40; go_loud (refine (NON.out _ N1.out).mono ?_; rintro e w1 ⟨rfl, rfl⟩)) | (go_at_call 41; go_loud (refine (status_at 6 _ Kn.k6).mono ?_; rintro e w1 ⟨rfl, hb⟩; have X1 := Lib.hid (blk_below X.out hb); have D1 := Lib.hid (gr_tr D.out hb); clear hb)) | (refine wpList_store_rowC rfl 56 (.tmp 6) (.tmp 11) rfl w.heap.size (stC 6) rfl rfl 56 _ X1.out (by kernel_rfl) rfl (stC_one _) ?_; intro w9 h9 hc; have X9 := Lib.hid h9; have C9 := Lib.hid hc; clear h9 hc))
  exact bodyPost_ret (results_cell_row rfl _ _ w.heap.size 56 _ (0, 0) _ rfl X9.out Tryz.underlying56 rfl (by kernel_rfl)) rfl ⟨rfl, Chg.fresh C9.out D1.out (fun k hk => by obtain rfl : k = w.heap.size := hk; exact Nat.le_refl _)⟩
set_option maxRecDepth 20000 in
theorem State_nil (v : Value) (w : World) (h : NilV w v) :
    Calls Tryz.prog 23 #[v] w fun e w' => e = .returned (.agg #[.int .i64 0, .int .i64 0, .string ⟨#[]⟩, .string ⟨#[]⟩, .string ⟨#[]⟩, .string ⟨#[]⟩, .string ⟨#[]⟩, .string ⟨#[]⟩, .string ⟨#[]⟩]) ∧ Below w.heap.size w w' := by
  have NON := Lib.hid (fun w h => none_any v w h)
  obtain ⟨W, hW⟩ : ∃ W, W = w.alloc (.cells #[.int .i64 0, .int .i64 0, .string ⟨#[]⟩, .string ⟨#[]⟩, .string ⟨#[]⟩, .string ⟨#[]⟩, .string ⟨#[]⟩, .string ⟨#[]⟩, .string ⟨#[]⟩] 34) := ⟨_, rfl⟩
  have D := Lib.hid (show Below w.heap.size w W by rw [hW]; exact gr_alloc w _)
  have X := Lib.hid (show W.heap[w.heap.size]? = some (.cells #[.int .i64 0, .int .i64 0, .string ⟨#[]⟩, .string ⟨#[]⟩, .string ⟨#[]⟩, .string ⟨#[]⟩, .string ⟨#[]⟩, .string ⟨#[]⟩, .string ⟨#[]⟩] 34 (0, 0)) by rw [hW]; exact heap_alloc_new w _)
  have HW := Lib.hid hW
  have N1 := Lib.hid (h.below D.out)
  clear hW h
  go_enter Tryz.func23, Tryz.ntmps23
  go_upto_region 1 with fail
  rw [← HW.out]
  go_wp2_with (first | (go_at_call 40; go_loud (refine (NON.out _ N1.out).mono ?_; rintro e w1 ⟨rfl, rfl⟩)) | (go_loud (refine wpList_store_row rfl 34 (.tmp 2) (.tmp 5) rfl w.heap.size #[.int .i64 0, .int .i64 0, .string ⟨#[]⟩, .string ⟨#[]⟩, .string ⟨#[]⟩, .string ⟨#[]⟩, .string ⟨#[]⟩, .string ⟨#[]⟩, .string ⟨#[]⟩] rfl rfl 34 _ X.out (by kernel_rfl) rfl (by simp [Value.oneCell']) ?_)))
  exact bodyPost_ret (results_cell_row rfl _ _ w.heap.size 34 _ (0, 0) _ rfl (setRow_heap _ _ _ _ _ _ X.out) Tryz.underlying34 rfl (by kernel_rfl)) rfl ⟨rfl, below_setRow D.out (Nat.le_refl _) _⟩
set_option maxRecDepth 20000 in
theorem Pieces_nil (v : Value) (w : World) (h : NilV w v) :
    Calls Tryz.prog 25 #[v] w fun e w' => e = .returned (.func (.func 51) #[] #[.pointer (some ⟨w.heap.size, 0, none⟩)]) ∧ w'.heap[w.heap.size]? = some (.cells #[.slice none 0 0] 72 (0, 0)) ∧ Below w.heap.size w w' := by
  have NON := Lib.hid (fun w h => none_any v w h)
  obtain ⟨W, hW⟩ : ∃ W, W = w.alloc (.cells #[.slice none 0 0] 72) := ⟨_, rfl⟩
  have D := Lib.hid (show Below w.heap.size w W by rw [hW]; exact gr_alloc w _)
  have X := Lib.hid (show W.heap[w.heap.size]? = some (.cells #[.slice none 0 0] 72 (0, 0)) by rw [hW]; exact heap_alloc_new w _)
  have HW := Lib.hid hW
  have N1 := Lib.hid (h.below D.out)
  clear hW h
  go_enter Tryz.func25, Tryz.ntmps25
  go_upto_region 2 with fail
  rw [← HW.out]
  go_wp2_with (go_at_call 40; go_loud (refine (NON.out _ N1.out).mono ?_; rintro e w1 ⟨rfl, rfl⟩))
  go_ret
  exact ⟨rfl, X.out, D.out⟩
end Go.Proofs.YtabfmhlhdebcpaaGreatDoor
namespace Go.Proofs.YtabfmhlhdebcpaaGreatDoor
open Go.RowKit Go.Shelf Fw
set_option linter.unusedVariables false
set_option linter.unusedSimpArgs false
namespace Fw
structure Cl where
  kind : Int
  off : BitVec 32
  data : Value
  slot : Int
  act : Int
  rev : List (BitVec 8)
def Cl.cells (x : Cl) : List Value := [.int .i64 x.kind, .int .u32 (uv x.off), x.data, .int .i64 x.slot, .int .i64 x.act, .string (strOf x.rev)]
def Cl.R (w : World) (x : Cl) : Prop := I64 x.kind ∧ True ∧ (∃ xs, SliceV w (fun y : BitVec 8 => [.int .u8 (uv y)]) x.data xs ∧ ∀ y ∈ xs, (fun _ : BitVec 8 => True) y) ∧ I64 x.slot ∧ I64 x.act ∧ x.rev.length ≤ 9223372036854775807
theorem Cl.cells_len : ∀ y, (Cl.cells y).length = 6 := fun _ => rfl
end Fw
set_option maxRecDepth 100000 in
theorem opens_Cl (w : World) : Opens Tryz.prog w 44 Cl Cl.cells (Cl.R w) := by
  intro H enc sp held fuel cs x h
  obtain ⟨hl, hfs⟩ := trod_fields Tryz.underlying44 h
  rw [show Tryz.prog.cellsOf 44 = 6 by kernel_rfl] at hl
  obtain ⟨y0, a0, r0⟩ := opens_field hfs 0 _ rfl 0 1 rfl (by kernel_rfl) (opens_i64 Tryz.underlying3)
  obtain ⟨y1, a1, r1⟩ := opens_field hfs 1 _ rfl 1 1 rfl (by kernel_rfl) (opens_u32 Tryz.underlying41)
  obtain ⟨y2, a2, r2⟩ := opens_field hfs 2 _ rfl 2 1 rfl (by kernel_rfl) ((opens_slice (k := 1) Tryz.underlying42 (by kernel_rfl) (by decide) (fun _ => rfl) (opens_u8 Tryz.underlying5)))
  obtain ⟨y3, a3, r3⟩ := opens_field hfs 3 _ rfl 3 1 rfl (by kernel_rfl) (opens_i64 Tryz.underlying3)
  obtain ⟨y4, a4, r4⟩ := opens_field hfs 4 _ rfl 4 1 rfl (by kernel_rfl) (opens_i64 Tryz.underlying3)
  obtain ⟨y5, a5, r5⟩ := opens_field hfs 5 _ rfl 5 1 rfl (by kernel_rfl) (opens_str Tryz.underlying9)
  have e := (glue a0 (by decide : 0 + 1 = 1) (glue a1 (by decide : 1 + 1 = 2) (glue a2 (by decide : 2 + 1 = 3) (glue a3 (by decide : 3 + 1 = 4) (glue a4 (by decide : 4 + 1 = 5) (glue a5 (by decide : 5 + 1 = 6) (glue_end hl)))))))
  rw [List.drop_zero] at e
  exact ⟨⟨y0, y1, y2, y3, y4, y5⟩, e, ⟨r0, r1, r2, r3, r4, r5⟩⟩
attribute [local go_sem] Oper.semAt_some
theorem zst_neq (w : World) : (binOp .neq 34 (.agg #[.int .i64 0, .int .i64 0, .string ⟨#[]⟩, .string ⟨#[]⟩, .string ⟨#[]⟩, .string ⟨#[]⟩, .string ⟨#[]⟩, .string ⟨#[]⟩, .string ⟨#[]⟩]) (.agg #[.int .i64 0, .int .i64 0, .string ⟨#[]⟩, .string ⟨#[]⟩, .string ⟨#[]⟩, .string ⟨#[]⟩, .string ⟨#[]⟩, .string ⟨#[]⟩, .string ⟨#[]⟩])).run Tryz.prog w = .ok (.bool false) w :=
  stt_neq ⟨0, 0, [[], [], [], [], [], [], []]⟩ rfl w
set_option maxHeartbeats 6400000 in
set_option maxRecDepth 20000 in
theorem lawNil (x : Cl) (w : World) (hR : Cl.R w x) :
    Calls Tryz.prog 9 #[.agg x.cells.toArray] w fun e w' => e = .returned (.bool true) ∧ Below w.heap.size w w' := by
  obtain ⟨kd, off, dv, sl, ac, rv⟩ := x
  obtain ⟨st, hst⟩ : ∃ z, strOf rv = z := ⟨_, rfl⟩
  show Calls Tryz.prog 9 #[.agg #[.int .i64 kd, .int .u32 (uv off), dv, .int .i64 sl, .int .i64 ac, .string (strOf rv)]] w _
  rw [hst]
  obtain ⟨o, ho⟩ : ∃ z, uv off = z := ⟨_, rfl⟩
  rw [ho]
  have hd1 : dv.oneCell' = true := by
    obtain ⟨-, -, ⟨xs, hs, -⟩, -⟩ := hR
    obtain ⟨a, c, h, -⟩ := hs
    have h : dv = _ := h
    subst h; rfl
  clear hst ho hR
  obtain ⟨W1, hW1⟩ : ∃ z, z = w.alloc (.cells #[.int .i64 kd, .int .u32 o, dv, .int .i64 sl, .int .i64 ac, .string st] 44) := ⟨_, rfl⟩
  have D1 := Lib.hid (show Below w.heap.size w W1 by rw [hW1]; exact gr_alloc _ _)
  have X1 := Lib.hid (show W1.heap[w.heap.size]? = some (.cells #[.int .i64 kd, .int .u32 o, dv, .int .i64 sl, .int .i64 ac, .string st] 44 (0, 0)) by rw [hW1]; exact heap_alloc_new w _)
  have S1 := Lib.hid (show W1.heap.size = w.heap.size + 1 by rw [hW1]; simp)
  obtain ⟨W2, hW2⟩ : ∃ z, z = W1.alloc (.cells #[.bool false] 4) := ⟨_, rfl⟩
  have D2 := Lib.hid (show Below W1.heap.size W1 W2 by rw [hW2]; exact gr_alloc _ _)
  have X2 := Lib.hid (show W2.heap[W1.heap.size]? = some (.cells #[.bool false] 4 (0, 0)) by rw [hW2]; exact heap_alloc_new W1 _)
  have H1 := Lib.hid hW1; have H2 := Lib.hid hW2
  clear hW1 hW2
  refine callsIn_wide.1 (callsIn_of_wp_marks (F := Fence.wide) (n := 8) Tryz.func9 rfl trivial ?_)
  simp only [Tryz.ntmps9, List.size_toArray, List.length_cons, List.length_nil, Nat.reduceAdd, Nat.reduceSub, Array.replicate_succ, Array.replicate_zero, List.push_toArray, List.append_toArray, List.nil_append, List.cons_append]
  refine wpIn_wide.2 ?_
  let FT : Exit → Act → World → Prop := bodyPost Tryz.prog Tryz.f9 (fun _ _ => True)
  go_upto_region 1 with fail
  rw [← H1.out, ← H2.out]
  clear FT
  go_upto_region 2 with fail
  go_wp2
  have P2 := Lib.hid (show W2.heap.size = w.heap.size + 2 by
    have h := S1.out
    rw [H2.out]; simp [h])
  obtain ⟨V, hV⟩ : ∃ z, z = (W2.alloc (.cells #[.int .i64 0, .bool false, .string ⟨#[]⟩, .int .i64 0, .int .i64 0, .int .i64 0, .string ⟨#[]⟩, .string ⟨#[]⟩, .string ⟨#[]⟩, .string ⟨#[]⟩, .string ⟨#[]⟩, .string ⟨#[]⟩, .string ⟨#[]⟩, .slice none 0 0] 74)).alloc (.cells #[.pointer none, .pointer (some ⟨W2.heap.size, 0, none⟩)] 25) := ⟨_, rfl⟩
  have XP := Lib.hid (show V.heap[W2.heap.size]? = some (.cells #[.int .i64 0, .bool false, .string ⟨#[]⟩, .int .i64 0, .int .i64 0, .int .i64 0, .string ⟨#[]⟩, .string ⟨#[]⟩, .string ⟨#[]⟩, .string ⟨#[]⟩, .string ⟨#[]⟩, .string ⟨#[]⟩, .string ⟨#[]⟩, .slice none 0 0] 74 (0, 0)) by rw [hV]; exact blk_below (heap_alloc_new W2 _) (gr_alloc _ _))
  have XB := Lib.hid (show V.heap[W2.heap.size + 1]? = some (.cells #[.pointer none, .pointer (some ⟨W2.heap.size, 0, none⟩)] 25 (0, 0)) by rw [hV, show W2.heap.size + 1 = (W2.alloc (.cells #[.int .i64 0, .bool false, .string ⟨#[]⟩, .int .i64 0, .int .i64 0, .int .i64 0, .string ⟨#[]⟩, .string ⟨#[]⟩, .string ⟨#[]⟩, .string ⟨#[]⟩, .string ⟨#[]⟩, .string ⟨#[]⟩, .string ⟨#[]⟩, .slice none 0 0] 74)).heap.size by simp]; exact heap_alloc_new _ _)
  have D4 := Lib.hid (show Below W2.heap.size W2 V by rw [hV]; exact gr_tr (gr_alloc _ _) (gr_alloc _ _))
  have X14 := Lib.hid (blk_below (blk_below X1.out D2.out) D4.out)
  have X24 := Lib.hid (blk_below X2.out D4.out)
  rw [S1.out] at X24
  have DV := Lib.hid (gr_tr (gr_tr D1.out D2.out) D4.out)
  rw [← hV]
  have c1 : V.cell? ⟨w.heap.size, 1, none⟩ = some (.int .u32 o) := (cell_of_row _ _ 1 _ _ _ X14.out).trans rfl
  have c2 : V.cell? ⟨w.heap.size, 2, none⟩ = some dv := (cell_of_row _ _ 2 _ _ _ X14.out).trans rfl
  have c3 : V.cell? ⟨w.heap.size, 3, none⟩ = some (.int .i64 sl) := (cell_of_row _ _ 3 _ _ _ X14.out).trans rfl
  have c4 : V.cell? ⟨w.heap.size, 4, none⟩ = some (.int .i64 ac) := (cell_of_row _ _ 4 _ _ _ X14.out).trans rfl
  obtain ⟨P, hP⟩ : ∃ z, W2.heap.size = z := ⟨_, rfl⟩
  rw [hP] at XP XB P2 ⊢
  have PZ := Lib.hid (show V.cell? ⟨P, 0, none⟩ = some (.int .i64 0) from (cell_of_row _ _ 0 _ _ _ XP.out).trans rfl)
  have c0 : V.cell? ⟨P + 1, 0, none⟩ = some (.pointer none) := (cell_of_row _ _ 0 _ _ _ XB.out).trans rfl
  have c5 : V.cell? ⟨P + 1, 1, none⟩ = some (.pointer (some ⟨P, 0, none⟩)) := (cell_of_row _ _ 1 _ _ _ XB.out).trans rfl
  have E := Lib.hid (Below.refl V.heap.size V)
  have hfn := fun (b : Nat) w => run_eql_func_nil (P := Tryz.prog) 64 _ Tryz.underlying64 rfl (.func 51) #[] #[.pointer (some ⟨b, 0, none⟩)] w
  have hzn := zst_neq
  clear hV hP H1 H2 S1 D1 D2 X1 X2 D4
  refine wp_loop_rounds 3 ?_
  rw [rounds_succ]
  have NV0 := Lib.hid (fun W' (h : Below V.heap.size V W') => (show NilV W' (.pointer none) from .inl rfl))
  go_upto_region 9 with (first
    | (go_at_call 24; go_loud (refine (Reset_nil _ _ (NV0.out _ E.out)).mono ?_; rintro e wa ⟨rfl, rfl⟩))
    | (go_at_call 21; go_loud (refine (Download_nil _ _ _ _ (NV0.out _ E.out)).mono ?_; rintro e wb0 ⟨rfl, hb⟩; replace E := Lib.hid (gr_tr E.out hb); replace c1 := below_cellE hb c1; replace c2 := below_cellE hb c2; replace c3 := below_cellE hb c3; replace c4 := below_cellE hb c4; replace c5 := below_cellE hb c5; clear hb))
    | (go_at_call 22; go_loud (refine (Commit_nil _ _ _ _ (NV0.out _ E.out)).mono ?_; rintro e wc0 ⟨rfl, hb⟩; replace E := Lib.hid (gr_tr E.out hb); replace c1 := below_cellE hb c1; replace c2 := below_cellE hb c2; replace c3 := below_cellE hb c3; replace c4 := below_cellE hb c4; replace c5 := below_cellE hb c5; clear hb))
    | (go_at_call 23; go_loud (refine (State_nil _ _ (NV0.out _ E.out)).mono ?_; rintro e wd0 ⟨rfl, hb⟩; replace E := Lib.hid (gr_tr E.out hb); replace c1 := below_cellE hb c1; replace c2 := below_cellE hb c2; replace c3 := below_cellE hb c3; replace c4 := below_cellE hb c4; replace c5 := below_cellE hb c5; clear hb))
    | (go_at_call 26; go_loud (refine (Copy_nil _ _ (NV0.out _ E.out)).mono ?_; rintro e we ⟨rfl, rfl⟩))
    | (go_at_call 25; go_loud (refine (Pieces_nil _ _ (NV0.out _ E.out)).mono ?_; rintro e wf0 ⟨rfl, hu, hb⟩; have U := Lib.hid hu; replace E := Lib.hid (gr_tr E.out hb); replace c1 := below_cellE hb c1; replace c2 := below_cellE hb c2; replace c3 := below_cellE hb c3; replace c4 := below_cellE hb c4; replace c5 := below_cellE hb c5; clear hb hu))
    | (go_at_call 20; go_loud (refine (is_at 6 6 true _ Kn.k6 rfl).mono ?_; rintro e wg0 ⟨rfl, hb⟩; replace E := Lib.hid (gr_tr E.out hb); replace c1 := below_cellE hb c1; replace c2 := below_cellE hb c2; replace c3 := below_cellE hb c3; replace c4 := below_cellE hb c4; replace c5 := below_cellE hb c5; clear hb)))
  go_upto_region 12 with fail
  have U4 := U
  have BL4 := Lib.hid (show _ < wf0.heap.size from (Array.getElem?_eq_some_iff.1 U4.out).1)
  refine (wpIn_wide (n := 8)).1 ?_
  refine rf_ret (F := Fence.wide) (n := 8) rfl (by omega) (gf := 51) (lb := #[.pointer (some ⟨wd0.heap.size, 0, none⟩)]) rfl trivial (enters_of Tryz.func51 (by kernel_rfl) rfl)
    (Pieces_stops 7 (by omega) 0 (.slice none 0 0) [] wd0.heap.size wf0 BL4.out U4.out (SliceV.of_own (f := pcC) (k := 2) (by decide) pcC_len (World.ownsRow_nil wf0 0 97 2)) rfl (by omega) (fun k hk => by (cases hk)) (fun x hx => by (cases hx)))
    (fun h1 h2 k hk => (h2 k hk).trans (h1 k hk)) (fun W1 l o o' hl _ _ _ k hk => by (cases hk)) (Below.refl _ _) (fun _ => rfl)
    (fun pre X => Below wf0.heap.size wf0 X) (fun pre X => False)
    ?hI0 ?hIx0 (Below.refl _ _) ⟨fun _ => { tmps := #[], defers := [] }, fun l x => x.elim0, fun l pre x => x.elim0⟩ ?done0 ?stop0
  case hI0 =>
    rintro s X Y row h hg hr
    exact h.grown hg h.size (fun k e => (hr k e).1)
  case hIx0 =>
    rintro s X Y row h hg hr
    exact h
  case stop0 =>
    rintro D pre X hD hS h hK
    exact h.elim
  rintro DD0 xs0 X0 hD hS hI hK
  have KD0 := Lib.hid (show X0.heap[DD0]? = some (.deferred (some [])) from hK)
  have GD0 := Lib.hid (Nat.le_trans E.out.size hD)
  skip
  replace E := Lib.hid (gr_tr E.out hI)
  replace c1 := below_cellE hI c1
  replace c2 := below_cellE hI c2
  replace c3 := below_cellE hI c3
  replace c4 := below_cellE hI c4
  replace c5 := below_cellE hI c5;
  clear hD hS hI hK xs0 U U4 BL4
  go_wp2
  rw [rounds_succ]
  have NV1 := Lib.hid (fun W' (h : Below V.heap.size V W') => (show NilV W' (.pointer (some ⟨P, 0, none⟩)) from .inr ⟨P, rfl, below_cellE h PZ.out⟩))
  go_upto_region 9 with (first
    | (go_at_call 24; go_loud (refine (Reset_nil _ _ (NV1.out _ E.out)).mono ?_; rintro e wa ⟨rfl, rfl⟩))
    | (go_at_call 21; go_loud (refine (Download_nil _ _ _ _ (NV1.out _ E.out)).mono ?_; rintro e wb1 ⟨rfl, hb⟩; replace E := Lib.hid (gr_tr E.out hb); replace c1 := below_cellE hb c1; replace c2 := below_cellE hb c2; replace c3 := below_cellE hb c3; replace c4 := below_cellE hb c4; replace c5 := below_cellE hb c5; replace KD0 := Lib.hid (blk_below KD0.out hb); clear hb))
    | (go_at_call 22; go_loud (refine (Commit_nil _ _ _ _ (NV1.out _ E.out)).mono ?_; rintro e wc1 ⟨rfl, hb⟩; replace E := Lib.hid (gr_tr E.out hb); replace c1 := below_cellE hb c1; replace c2 := below_cellE hb c2; replace c3 := below_cellE hb c3; replace c4 := below_cellE hb c4; replace c5 := below_cellE hb c5; replace KD0 := Lib.hid (blk_below KD0.out hb); clear hb))
    | (go_at_call 23; go_loud (refine (State_nil _ _ (NV1.out _ E.out)).mono ?_; rintro e wd1 ⟨rfl, hb⟩; replace E := Lib.hid (gr_tr E.out hb); replace c1 := below_cellE hb c1; replace c2 := below_cellE hb c2; replace c3 := below_cellE hb c3; replace c4 := below_cellE hb c4; replace c5 := below_cellE hb c5; replace KD0 := Lib.hid (blk_below KD0.out hb); clear hb))
    | (go_at_call 26; go_loud (refine (Copy_nil _ _ (NV1.out _ E.out)).mono ?_; rintro e we ⟨rfl, rfl⟩))
    | (go_at_call 25; go_loud (refine (Pieces_nil _ _ (NV1.out _ E.out)).mono ?_; rintro e wf1 ⟨rfl, hu, hb⟩; have U := Lib.hid hu; replace E := Lib.hid (gr_tr E.out hb); replace c1 := below_cellE hb c1; replace c2 := below_cellE hb c2; replace c3 := below_cellE hb c3; replace c4 := below_cellE hb c4; replace c5 := below_cellE hb c5; replace KD0 := Lib.hid (blk_below KD0.out hb); clear hb hu))
    | (go_at_call 20; go_loud (refine (is_at 6 6 true _ Kn.k6 rfl).mono ?_; rintro e wg1 ⟨rfl, hb⟩; replace E := Lib.hid (gr_tr E.out hb); replace c1 := below_cellE hb c1; replace c2 := below_cellE hb c2; replace c3 := below_cellE hb c3; replace c4 := below_cellE hb c4; replace c5 := below_cellE hb c5; replace KD0 := Lib.hid (blk_below KD0.out hb); clear hb)))
  go_upto_region 12 with fail
  have U4 := U
  have BL4 := Lib.hid (show _ < wf1.heap.size from (Array.getElem?_eq_some_iff.1 U4.out).1)
  refine (wpIn_wide (n := 8)).1 ?_
  refine rf_ret (F := Fence.wide) (n := 8) rfl (by omega) (gf := 51) (lb := #[.pointer (some ⟨wd1.heap.size, 0, none⟩)]) rfl trivial (enters_of Tryz.func51 (by kernel_rfl) rfl)
    (Pieces_stops 7 (by omega) 0 (.slice none 0 0) [] wd1.heap.size wf1 BL4.out U4.out (SliceV.of_own (f := pcC) (k := 2) (by decide) pcC_len (World.ownsRow_nil wf1 0 97 2)) rfl (by omega) (fun k hk => by (cases hk)) (fun x hx => by (cases hx)))
    (fun h1 h2 k hk => (h2 k hk).trans (h1 k hk)) (fun W1 l o o' hl _ _ _ k hk => by (cases hk)) (Below.refl _ _) (fun _ => rfl)
    (fun pre X => Below wf1.heap.size wf1 X) (fun pre X => False)
    ?hI1 ?hIx1 (Below.refl _ _) ⟨fun _ => { tmps := #[], defers := [] }, fun l x => x.elim0, fun l pre x => x.elim0⟩ ?done1 ?stop1
  case hI1 =>
    rintro s X Y row h hg hr
    exact h.grown hg h.size (fun k e => (hr k e).1)
  case hIx1 =>
    rintro s X Y row h hg hr
    exact h
  case stop1 =>
    rintro D pre X hD hS h hK
    exact h.elim
  rintro DD1 xs1 X1 hD hS hI hK
  have KD1 := Lib.hid (show X1.heap[DD1]? = some (.deferred (some [])) from hK)
  have GD1 := Lib.hid (Nat.le_trans E.out.size hD)
  have LT := Lib.hid (Nat.lt_of_lt_of_le (Array.getElem?_eq_some_iff.1 KD0.out).1 hD)
  replace E := Lib.hid (gr_tr E.out hI)
  replace c1 := below_cellE hI c1
  replace c2 := below_cellE hI c2
  replace c3 := below_cellE hI c3
  replace c4 := below_cellE hI c4
  replace c5 := below_cellE hI c5
  replace KD0 := Lib.hid (blk_below KD0.out hI);
  clear hD hS hI hK xs1 U U4 BL4
  go_wp2
  rw [rounds_succ]
  have VL := Lib.hid (show w.heap.size + 1 < V.heap.size from (Array.getElem?_eq_some_iff.1 X24.out).1)
  go_wp2_with (go_at_call 12; go_loud ((with_reducible refine (known_any _).mono ?_); rintro e wk ⟨rfl, hb⟩; replace E := Lib.hid (gr_tr E.out hb); have X9 := Lib.hid (blk_below X24.out E.out); have x6 : wk.cell? ⟨w.heap.size + 1, 0, none⟩ = some (.bool false) := (cell_of_row _ _ 0 _ _ _ X9.out).trans rfl; have z6 := frozen_of_row _ _ 0 _ _ X9.out; replace KD0 := Lib.hid (blk_below KD0.out hb); replace KD1 := Lib.hid (blk_below KD1.out hb); clear hb))
  obtain ⟨Y, hY⟩ : ∃ z, z = wk.setCell ⟨w.heap.size + 1, 0, none⟩ (.bool true) := ⟨_, rfl⟩
  have gv := VL.out; have g0 := GD0.out; have g1 := GD1.out; have gl := LT.out
  have Y0 : Y.heap[DD0]? = some (.deferred (some [])) := by rw [hY, heap_setCell_other _ _ _ _ (by show DD0 ≠ w.heap.size + 1; omega)]; exact KD0.out
  have Y1 : Y.heap[DD1]? = some (.deferred (some [])) := by rw [hY, heap_setCell_other _ _ _ _ (by show DD1 ≠ w.heap.size + 1; omega)]; exact KD1.out
  have YR : Y.heap[w.heap.size + 1]? = some (.cells #[.bool true] 4 (0, 0)) := by rw [hY]; exact heap_setCell_same _ _ _ _ _ _ X9.out
  have YB : Below w.heap.size w Y := by rw [hY]; exact (gr_tr DV.out E.out).setCell (p := ⟨w.heap.size + 1, 0, none⟩) (by show w.heap.size ≤ w.heap.size + 1; omega) _
  rw [← hY]
  refine ⟨by simp, .inl ⟨_, _, rfl, run_takeDeferred Y1, ?_⟩⟩
  refine ⟨by simp, .inl ⟨_, _, rfl, run_takeDeferred ((World.putObj_heap_other (by omega)).trans Y0), ?_⟩⟩
  refine ⟨.bool true, results_cell1 rfl _ _ (w.heap.size + 1) _ 4 (0, 0) _ rfl ((World.putObj_heap_other (by omega)).trans ((World.putObj_heap_other (by omega)).trans YR)) Tryz.underlying4 rfl, rfl, ?_⟩
  have h1 : Below w.heap.size w (Y.putObj DD1 (.deferred none)) := YB.grown (grownBy_putObj' Y DD1 _) YB.size (fun j e => by cases e; omega)
  exact h1.grown (grownBy_putObj' _ DD0 _) h1.size (fun j e => by cases e; omega)
end Go.Proofs.YtabfmhlhdebcpaaGreatDoor
namespace Go.Proofs.YtabfmhlhdebcpaaGreatDoor
open Go.RowKit Fw
set_option linter.unusedVariables false
set_option linter.unusedSimpArgs false
attribute [local go_sem] Oper.semAt_some
theorem rDownload_at (x : St) (lv : Value) (dvs : List Value) (A : Nat) (v : Value) (d : Bs) (w : World) (hok : Fw.Ok x) (hp : PcsAt 67 w x.ps lv dvs) (hv : BytesV w v d) (hA : A < 4294967296) (hd : d.length ≤ 4611686018427387904) :
    Calls Tryz.prog 30 #[.agg (x.cells lv).toArray, .int .u32 (A : Int), v] w (RDPost x dvs A d w) := by
  cases h : dlBad x.c A d.length
  · exact rDownload_ok x lv dvs A v d w hok hp hv hA h
  · exact rDownload_bad x lv dvs A v d w hok hp hv hA hd h
theorem rCommit_at (x : St) (lv : Value) (dvs : List Value) (k a : Int) (w : World) (hok : Fw.Ok x) (hp : PcsAt 67 w x.ps lv dvs) (hk : I64 k) :
    Calls Tryz.prog 31 #[.agg (x.cells lv).toArray, .int .i64 k, .int .i64 a] w (RCPost (cmS x k a) (cmE x k a) dvs w) := by
  by_cases h1 : a < 0 ∨ 3 < a
  · exact rCommit_bad x lv dvs k a w hok hp h1
  · by_cases h2 : a = 2 ∨ a = 3
    · exact rCommit_act x lv dvs k a w hok hp h2
    · exact rCommit_store x lv dvs k a w hok hp hk (by omega)
/-- The bytes of a call. -/
def Cl.Small (w : World) (x : Cl) : Prop := ∃ d : Bs, BytesV w x.data d ∧ d.length ≤ 200
theorem flat8 : ∀ xs : Bs, xs.flatMap (fun y : BitVec 8 => [Value.int .u8 (uv y)]) = by8 xs
  | [] => rfl
  | x :: xs => by rw [List.flatMap_cons, flat8 xs]; rfl
theorem Cl.bytes {w : World} {x : Cl} (h : Cl.R w x) : ∃ d : Bs, BytesV w x.data d := by
  obtain ⟨-, -, ⟨xs, hs, -⟩, -⟩ := h
  obtain ⟨a, c, e, h1, h2, h3, h4⟩ := hs
  refine ⟨xs, a, c, e, h1, h2, h3, ?_⟩
  have hb := flat8 xs
  rw [← hb]; exact h4
def FewPost (xs : List Cl) (w : World) (e : Ending) (w' : World) : Prop := w = w' ∧ ∃ b, e = .returned (.bool b) ∧ (b = true → xs.length ≤ 60 ∧ ∀ x ∈ xs, Cl.Small w x)
/-- few: it says yes only where each call's bytes are few. -/
theorem few_le (v : Value) (xs : List Cl) (w : World) (hv : SliceV w Cl.cells v xs) (hR : ∀ x ∈ xs, Cl.R w x) :
    Calls Tryz.prog 13 #[v] w (FewPost xs w) := by
  have V := Lib.hid hv
  have HR := Lib.hid hR
  obtain ⟨a, c, rfl, -, hm, hm2, -⟩ := id hv
  obtain ⟨n, hn⟩ : ∃ n, xs.length = n := ⟨_, rfl⟩
  have HN := Lib.hid hn
  have hn63 : n ≤ 9223372036854775807 := by omega
  rw [hn] at V ⊢
  clear hv hR hm hm2 hn
  by_cases h60 : 60 < n
  · have g : (60 : Int) < (n : Int) := by omega
    clear h60
    go_enter Tryz.func13, Tryz.ntmps13
    go_wp2
    go_ret
    exact ⟨rfl, false, rfl, fun h => by cases h⟩
  · have g : ¬ (60 : Int) < (n : Int) := by omega
    go_enter Tryz.func13, Tryz.ntmps13
    go_wp2
    go_loop [3] (fun i => ∃ k : Nat, k ≤ n ∧ i = .int .i64 k ∧ Hid (∀ x ∈ xs.take k, Cl.Small w x)) (fun i => n - (intOf i).toNat)
    case atStart => exact ⟨0, by omega, rfl, Lib.hid (fun x hx => by cases hx)⟩
    case round =>
      obtain ⟨k, hk, rfl, HS⟩ := hrel
      by_cases hlt : k < n
      · obtain ⟨x, hx⟩ : ∃ x, xs[k]? = some x := ⟨_, List.getElem?_eq_getElem (by rw [HN.out]; exact hlt)⟩
        obtain ⟨gq, o, cq, he1, hr1⟩ := SliceV.rng Cl.cells_len V.out k x hx (by decide)
        injection he1 with he1 he1' he1''
        subst he1; subst he1''
        have hmem := List.mem_of_getElem? hx
        obtain ⟨d, hd⟩ := Cl.bytes (HR.out x hmem)
        have HD := Lib.hid hd
        obtain ⟨ad, cd, hsd, -, hdc, hdc2, -⟩ := hd
        have hed : w.cell? ⟨gq, o + k * 6 + 2, none⟩ = some x.data := hr1 2 _ rfl
        rw [hsd] at hed
        have TK := Lib.hid (take_snoc hx)
        clear hr1 he1' hmem hx hsd
        by_cases h200 : 200 < d.length
        · have g2 : (200 : Int) < (d.length : Int) := by omega
          go_wp2
          go_ret
          exact ⟨rfl, false, rfl, fun h => by cases h⟩
        · have g2 : ¬ (200 : Int) < (d.length : Int) := by omega
          have HS2 := Lib.hid (show ∀ y ∈ xs.take (k + 1), Cl.Small w y by
            intro y hy
            rw [TK.out] at hy
            rcases List.mem_append.1 hy with hy | hy
            · exact HS.out y hy
            · rw [List.mem_singleton.1 hy]; exact ⟨d, HD.out, by omega⟩)
          clear h200
          go_wp2
          go_round
          case rel => exact ⟨k + 1, by omega, by go_num, HS2⟩
          case measure => simp [intOf]; omega
      · obtain rfl : k = n := by omega
        have HF := Lib.hid (show ∀ x ∈ xs, Cl.Small w x by have h := HS.out; rw [List.take_of_length_le (by rw [HN.out]; omega)] at h; exact h)
        go_wp2
        go_ret
        exact ⟨rfl, true, rfl, fun _ => ⟨by rw [HN.out]; omega, HF.out⟩⟩
end Go.Proofs.YtabfmhlhdebcpaaGreatDoor
namespace Go.Proofs.YtabfmhlhdebcpaaGreatDoor
open Go.RowKit Go.Shelf Fw
set_option linter.unusedVariables false
set_option linter.unusedSimpArgs false
attribute [local go_sem] Oper.semAt_some
/-- The blocks of agrees while it goes over the pieces. -/
structure AgSt (w0 : World) (q : Nat) (x : St) (lv : Value) (n : Int) (b : Nat) (W : World) : Prop where
  m : RbAt W q x lv
  r : W.heap[q + 1]? = some (.cells #[.bool false] 4 (0, 0))
  n : W.heap[b]? = some (.cells #[.int .i64 n] 3 (0, 0))
  bel : Below w0.heap.size w0 W
theorem AgSt.grown {w0 : World} {q : Nat} {x : St} {lv : Value} {n : Int} {b : Nat} {W W2 : World} {row : Option Nat} {B : Nat} (h : AgSt w0 q x lv n b W) (hg : W.grownBy W2 row) (hq : q + 1 < B) (hb : b < B) (hw : w0.heap.size ≤ B) (hr : ∀ r, row = some r → B ≤ r) : AgSt w0 q x lv n b W2 :=
  ⟨(hg.block _ (Array.getElem?_eq_some_iff.1 h.m).1 (fun e => by have := hr _ e.symm; omega)).trans h.m, (hg.block _ (Array.getElem?_eq_some_iff.1 h.r).1 (fun e => by have := hr _ e.symm; omega)).trans h.r, (hg.block _ (Array.getElem?_eq_some_iff.1 h.n).1 (fun e => by have := hr _ e.symm; omega)).trans h.n, h.bel.grown hg h.bel.size (fun k hk => by have := hr k hk; omega)⟩
theorem AgSt.next {w0 : World} {q : Nat} {x : St} {lv : Value} {n m : Int} {b : Nat} {W : World} (h : AgSt w0 q x lv n b W) (hq : q + 1 < b) (hw : w0.heap.size ≤ b) : AgSt w0 q x lv m b (W.setCell ⟨b, 0, none⟩ (.int .i64 m)) :=
  ⟨(heap_setCell_other _ _ _ _ (by show q ≠ b; omega)).trans h.m, (heap_setCell_other _ _ _ _ (by show q + 1 ≠ b; omega)).trans h.r, heap_setCell_same _ _ _ _ _ _ h.n, h.bel.setCell (p := ⟨b, 0, none⟩) hw _⟩
set_option maxHeartbeats 6400000 in
set_option maxRecDepth 20000 in
theorem agrees_at (p : Nat) (x : St) (lv lvr : Value) (dvs dvr : List Value) (w : World) (hd : SlAt w p x lv dvs) (hr : PcsAt 67 w x.ps lvr dvr) :
    Calls Tryz.prog 27 #[.pointer (some ⟨p, 0, none⟩), .agg (x.cells lvr).toArray] w fun e w' => e = .returned (.bool true) ∧ Below w.heap.size w w' := by
  obtain ⟨W, hW⟩ : ∃ W, W = (w.alloc (.cells (x.cells lvr).toArray 37)).alloc (.cells #[.bool false] 4) := ⟨_, rfl⟩
  have D0 := Lib.hid (show Below w.heap.size w W by rw [hW]; exact gr_tr (gr_alloc w _) (gr_alloc _ _))
  have M0 := Lib.hid (show RbAt W w.heap.size x lvr by rw [hW]; exact (RbAt.new w x lvr).below (gr_alloc _ _))
  have R0 := Lib.hid (show W.heap[w.heap.size + 1]? = some (.cells #[.bool false] 4 (0, 0)) by
    rw [hW, show w.heap.size + 1 = (w.alloc (.cells (x.cells lvr).toArray 37)).heap.size by simp]; exact heap_alloc_new _ _)
  have DD := Lib.hid hd; have RR := Lib.hid hr
  have HL := Lib.hid hd.ok.len
  have PIE := Lib.hid (fun w' h => Pieces_at p x lv dvs w' h)
  have STA := Lib.hid (fun w' h => State_at p x lv dvs w' h)
  have NEQ := stt_neq x.s HL.out
  have RNG := Lib.hid (fun (w : World) (h : RbAt w W.heap.size x lvr) => True.intro)
  have RG := Lib.hid (fun (W1 : World) (h : RbAt W1 w.heap.size x lvr) => (rng_row (a := x.c.cells) (b := x.s.cells) (c := [lvr]) h rfl : W1.rangeAt w.heap.size 4 x.s.cells))
  have CL := Lib.hid (Stt.cells_len x.s hd.ok.len)
  obtain ⟨ss, hss⟩ : ∃ c, x.s.cells = c := ⟨_, rfl⟩
  rw [hss] at STA NEQ RG CL
  obtain ⟨cs, hcs⟩ : ∃ c, (x.cells lvr).toArray = c := ⟨_, rfl⟩
  rw [hcs] at hW ⊢
  have HW := Lib.hid hW
  have hfn := fun (b : Nat) w => run_eql_func_nil (P := Tryz.prog) 64 _ Tryz.underlying64 rfl (.func 51) #[] #[.pointer (some ⟨b, 0, none⟩)] w
  clear hW hd hr hss hcs RNG
  refine callsIn_wide.1 (callsIn_of_wp_marks (F := Fence.wide) (n := 8) Tryz.func27 rfl trivial ?_)
  simp only [Tryz.ntmps27, List.size_toArray, List.length_cons, List.length_nil, Nat.reduceAdd, Nat.reduceSub, Array.replicate_succ, Array.replicate_zero, List.push_toArray, List.append_toArray, List.nil_append, List.cons_append]
  refine wpIn_wide.2 ?_
  let FT : Exit → Act → World → Prop := bodyPost Tryz.prog Tryz.f27 (fun _ _ => True)
  go_upto_region 1 with fail
  rw [← HW.out]
  clear HW FT
  go_upto_region 2 with (go_at_call 25; go_loud (refine (PIE.out _ (DD.out.below D0.out)).mono ?_; rintro e w1 ⟨u, rfl, h1, h2, hb⟩; have U1 := Lib.hid h1; have O1 := Lib.hid h2; have B1 := Lib.hid hb; clear h1 h2 hb))
  have M1 := Lib.hid (M0.out.below B1.out)
  have R1 := Lib.hid (blk_below R0.out B1.out)
  refine wp_calm ?_
  refine wp_region_planW (fun _ => False) [(true, 0), (true, 2), (true, 3), (false, 1), (true, 4), (true, 5), (true, 6), (true, 7), (true, 8)] (by kernel_rfl) (by kernel_rfl) (by intro c a d v w h; cases d <;> exact h) ?_
  intro W1 K1 C1
  (refine wpS_firm rfl (fun K hK => ?_); simp only [Keep]; go_simp; refine hK _ ?_; clear hK K)
  (refine wpS_firm rfl (fun K hK => ?_); simp only [Keep]; go_simp; refine hK _ ?_; clear hK K)
  refine wpS_load_mid rfl rfl 34 (.tmp 13) rfl w.heap.size 4 rfl ss _ (fun x hx => Keep.rng hx (RG.out _ M1.out) id) Tryz.underlying34 rfl (by rw [CL.out]; kernel_rfl) ?_
  refine wpS_chain rfl ?_
  go_wp2_with (go_at_call 23; go_loud (refine (STA.out _ (DD.out.below (gr_tr (gr_tr D0.out B1.out) C1.out))).mono ?_; rintro e w2 ⟨rfl, hb⟩; have B2 := Lib.hid (gr_tr C1.out hb); have K2 := Lib.hid (K1.out.chgK (Chg.of_below hb) (fun k hk => hk)); clear hb))
  refine ⟨K2.out, ?_⟩
  repeat (refine wpS_firm rfl (fun K hK => ?_); simp only [Keep]; go_simp; refine hK _ ?_; clear hK K)
  unfold wpS
  have M2 := Lib.hid (M1.out.below B2.out)
  have R2 := Lib.hid (blk_below R1.out B2.out)
  have U2 := Lib.hid (blk_below U1.out B2.out)
  have O2 := Lib.hid (own_below O1.out B2.out)
  have D2 := Lib.hid (gr_tr (gr_tr D0.out B1.out) B2.out)
  clear hfn NEQ RG K1 K2 C1 M1 R1
  go_upto_region 5 with fail
  obtain ⟨b, hb⟩ : ∃ b, w2.heap.size = b := ⟨_, rfl⟩
  obtain ⟨w3, hw3⟩ : ∃ z, z = w2.alloc (.cells #[.int .i64 0] 3) := ⟨_, rfl⟩
  have A0 := Lib.hid (show Below w2.heap.size w2 w3 by rw [hw3]; exact gr_alloc _ _)
  have ST := Lib.hid (show AgSt w w.heap.size x lvr 0 b w3 from ⟨M2.out.below A0.out, blk_below R2.out A0.out, by rw [hw3, ← hb]; exact heap_alloc_new w2 _, gr_tr D2.out A0.out⟩)
  have U3 := Lib.hid (blk_below U2.out A0.out)
  have O3 := Lib.hid (own_below O2.out A0.out)
  have BL := Lib.hid (show W.heap.size < w3.heap.size from (Array.getElem?_eq_some_iff.1 U3.out).1)
  have BQ := Lib.hid (show b < w3.heap.size from (Array.getElem?_eq_some_iff.1 ST.out.n).1)
  have WQ := Lib.hid (show w.heap.size + 1 < W.heap.size from (Array.getElem?_eq_some_iff.1 R0.out).1)
  have WB := Lib.hid (show W.heap.size < b by rw [← hb]; exact (Array.getElem?_eq_some_iff.1 U2.out).1)
  have OB := Lib.hid (show ∀ k, u.ownBlock = some k → k < b from fun k hk => by rw [← hb]; exact (O2.out.lt k hk).2)
  rw [← hw3, hb]
  clear hb hw3 R2 U2 O2 M2 D2 B1 B2 U1 O1 A0 R0
  have hz := DD.out.pcs.zlen
  obtain ⟨zs, hzs⟩ : ∃ z, x.ps.zip dvs = z := ⟨_, rfl⟩
  rw [hzs] at hz O3
  obtain ⟨m, hm⟩ : ∃ m, x.ps.length = m := ⟨_, rfl⟩
  have HM := Lib.hid hm
  rw [hm] at hz O3
  have HZ := Lib.hid hz
  have HZS := Lib.hid hzs
  have SU := Lib.hid (show SliceV w3 pcC u zs by
    have h := O3.out
    rw [← HZ.out] at h
    exact SliceV.of_own (f := pcC) (k := 2) (by decide) pcC_len h)
  have OL := Lib.hid (show ∀ k, u.ownBlock = some k → W.heap.size + 1 ≤ k ∧ k < w3.heap.size from fun k hk => O3.out.lt k hk)
  have HON := Lib.hid (show ∀ y ∈ zs, ∃ a c, y.2 = .slice a y.1.d.length c from fun y hy => by
    rw [← HZS.out] at hy
    obtain ⟨j, hj⟩ := List.mem_iff_getElem?.1 hy
    obtain ⟨h1, h2⟩ := List.getElem?_zip_eq_some.1 hj
    exact own_shape (DD.out.pcs.el j _ _ h1 h2))
  have M20 := Lib.hid (show m ≤ 1048576 by rw [← hm]; exact DD.out.ok.sum.2)
  clear hz hzs hm O3
  go_upto_region 8 with fail
  refine (wpIn_wide (n := 8)).1 ?_
  refine rf_ret (F := Fence.wide) (n := 8) rfl (by omega) (gf := 51) (lb := #[.pointer (some ⟨W.heap.size, 0, none⟩)]) rfl trivial (enters_of Tryz.func51 (by kernel_rfl) rfl)
    (Pieces_stops 7 (by omega) m u zs W.heap.size w3 BL.out U3.out SU.out HZ.out M20.out (fun k hk => (OL.out k hk).2) HON.out)
    (fun h1 h2 k hk => (h2 k hk).trans (h1 k hk)) (fun W1 l o o' hl _ _ _ k hk => World.putObj_heap_other (by have := (OL.out k hk).2; omega)) (Below.refl _ _) (fun _ => rfl)
    (fun pre X => AgSt w w.heap.size x lvr (pre.length : Int) b X ∧ pre.map (·.val) = List.range pre.length ∧ w3.heap.size ≤ X.heap.size)
    (fun pre X => ¬ (pre.map (·.val) = List.range pre.length))
    ?hI ?hIx ⟨ST.out, rfl, Nat.le_refl _⟩ ?ab ?done ?stop
  case hIx =>
    rintro s X Y row h hg hr
    exact h
  case hI =>
    rintro s X Y row ⟨h1, h2, h3⟩ hg hr
    exact ⟨h1.grown hg (by have := BQ.out; have := WB.out; have := WQ.out; omega) BQ.out (by have := BQ.out; have := WB.out; have := WQ.out; omega) (fun r e => (hr r e).1), h2, Nat.le_trans h3 hg.size⟩
  case stop =>
    rintro D pre X hD hS h hK
    exact absurd hS.1 h
  case done =>
    rintro D xs X hD hS ⟨h1, h2, h3⟩ hK
    have hxl : xs.length = m := by have := congrArg List.length hS; simpa using this
    rw [hxl] at h1
    have HI := Lib.hid h1; have HKD := Lib.hid hK; have HD := Lib.hid hD
    obtain ⟨al, cl, hlv⟩ : ∃ a c, lvr = .slice a m c := by rw [← HM.out]; exact own_shape RR.out.own
    have c6 : X.cell? ⟨b, 0, none⟩ = some (.int .i64 (m : Int)) := (cell_of_row _ _ 0 _ _ _ HI.out.n).trans rfl
    have c13 : X.cell? ⟨w.heap.size, 13, none⟩ = some (.slice al m cl) := by rw [← hlv]; exact HI.out.m.cpc HL.out
    have r1 : X.cell? ⟨w.heap.size + 1, 0, none⟩ = some (.bool false) := (cell_of_row _ _ 0 _ _ _ HI.out.r).trans rfl
    have z1 := frozen_of_row _ _ 0 _ _ HI.out.r
    have hm20 := M20.out
    clear h1 h2 h3 hK hD hS hxl hlv
    go_wp2
    obtain ⟨Y, hY⟩ : ∃ Y, Y = X.setCell ⟨w.heap.size + 1, 0, none⟩ (.bool true) := ⟨_, rfl⟩
    have gd := HD.out; have gq := BQ.out; have gb := WB.out; have gw := WQ.out
    have Y1 : Y.heap[D]? = some (.deferred (some [])) := by rw [hY, heap_setCell_other _ _ _ _ (by show D ≠ w.heap.size + 1; omega)]; exact HKD.out
    have YR : Y.heap[w.heap.size + 1]? = some (.cells #[.bool true] 4 (0, 0)) := by rw [hY]; exact heap_setCell_same _ _ _ _ _ _ HI.out.r
    have YB : Below w.heap.size w Y := by rw [hY]; exact HI.out.bel.setCell (p := ⟨w.heap.size + 1, 0, none⟩) (by show w.heap.size ≤ w.heap.size + 1; omega) _
    rw [← hY]
    refine ⟨by simp, .inl ⟨_, _, rfl, run_takeDeferred Y1, ?_⟩⟩
    exact ⟨.bool true, results_cell1 rfl _ _ (w.heap.size + 1) _ 4 (0, 0) _ rfl ((World.putObj_heap_other (by omega)).trans YR) Tryz.underlying4 rfl, rfl, YB.grown (grownBy_putObj' Y D _) YB.size (fun j e => by cases e; omega)⟩
  case ab =>
    apply Exists.intro
    apply And.intro
    case left =>
      rintro l y X K hK
      gi_wp2
      exact hK
    case right =>
      rintro l pre ⟨k, hkm⟩ X ⟨h1, h2, h3⟩ hlt
      have HI := Lib.hid h1; have HV := Lib.hid h2; have XL := Lib.hid h3
      obtain ⟨n, hn⟩ : ∃ n, pre.length = n := ⟨_, rfl⟩
      have HNN := Lib.hid hn
      rw [hn] at HI hlt
      obtain ⟨⟨a, pd⟩, hp⟩ : ∃ p : Pc, x.ps[k]? = some p := ⟨_, List.getElem?_eq_getElem (by rw [HM.out]; exact hkm)⟩
      obtain ⟨⟨a2, pd2⟩, hp2⟩ : ∃ p : Pc, x.ps[n]? = some p := ⟨_, List.getElem?_eq_getElem (by rw [HM.out]; exact hlt)⟩
      obtain ⟨dv, hdv, hz⟩ := DD.out.pcs.get k _ hp
      obtain ⟨dv2, hdv2, hz2⟩ := RR.out.get n _ hp2
      rw [HZS.out] at hz
      have hat : atOf zs k = (a : Int) := by unfold atOf; rw [hz]
      have hln : lnOf zs k = (pd.length : Int) := by unfold lnOf; rw [hz]
      obtain ⟨al, cl, hlv⟩ : ∃ a c, lvr = .slice a m c := by rw [← HM.out]; exact own_shape RR.out.own
      have hsl := SliceV.below RR.out.slice HI.out.bel
      rw [hlv] at hsl
      obtain ⟨gq, o, cq, he1, hr1⟩ := SliceV.rng pcC_len hsl n _ hz2 (by decide)
      injection he1 with he1 he1' he1''
      subst he1; subst he1''
      have hda := RR.out.el n ⟨a2, pd2⟩ dv2 hp2 hdv2
      obtain ⟨ad, cd, hsd⟩ := own_shape hda
      have hsd : dv2 = .slice ad pd2.length cd := hsd
      have e0 : X.cell? ⟨gq, o + n * 2, none⟩ = some (.int .i64 (a2 : Int)) := by have h := hr1 0 _ rfl; simpa [pcC] using h
      have e1 : X.cell? ⟨gq, o + n * 2 + 1, none⟩ = some (.slice ad pd2.length cd) := by rw [← hsd]; exact hr1 1 _ rfl
      have c6 : X.cell? ⟨b, 0, none⟩ = some (.int .i64 (n : Int)) := (cell_of_row _ _ 0 _ _ _ HI.out.n).trans rfl
      have c13 : X.cell? ⟨w.heap.size, 13, none⟩ = some (.slice (some ⟨gq, o, none⟩) m cl) := by rw [← hlv]; exact HI.out.m.cpc HL.out
      have r1 : X.cell? ⟨w.heap.size + 1, 0, none⟩ = some (.bool false) := (cell_of_row _ _ 0 _ _ _ HI.out.r).trans rfl
      have z1 := frozen_of_row _ _ 0 _ _ HI.out.r
      have zb := frozen_of_row _ _ 0 _ _ HI.out.n
      have hm20 := M20.out
      have SNE := Lib.hid (show k ≠ n → a ≠ a2 from fun hne he => by
        have hs := DD.out.ok.sep
        rcases Nat.lt_or_gt_of_ne hne with h | h
        · have := Sep.lt hs h hp hp2; have h5 := (Sep.at hs hp).2; simp at this h5; omega
        · have := Sep.lt hs h hp2 hp; have h5 := (Sep.at hs hp2).2; simp at this h5; omega)
      have SEQ := Lib.hid (show k = n → a = a2 ∧ pd = pd2 from fun he => by subst he; rw [hp] at hp2; cases hp2; exact ⟨rfl, rfl⟩)
      show Code.wpIn _ _ _ _ _ _ _
      rw [hat, hln]
      clear h1 h2 h3 hn hz hz2 hdv hdv2 hp hp2 hat hln hr1 he1' hsl hlv hda hsd
      by_cases hkn : k = n
      · obtain ⟨rfl, rfl⟩ := SEQ.out hkn
        have HKN := Lib.hid hkn
        have q1 : ¬ (m : Int) ≤ (n : Int) := by omega
        clear hkn
        gi_wp2
        refine ⟨?_, ?_, ?_, ?_, ?_⟩
        · exact KeepsOthers.setCell _ _ _
        · intro kk hkk
          have := OB.out kk hkk
          exact heap_setCell_other _ _ _ _ (show kk ≠ b by omega)
        · have h9 := HI.out.next (m := (n : Int) + 1) (by have := WB.out; have := WQ.out; omega) (by have := WB.out; have := WQ.out; omega)
          rw [List.length_append, HNN.out]
          exact h9
        · rw [List.map_append, List.length_append, HV.out, HNN.out]
          show List.range n ++ [k] = List.range (n + 1)
          rw [List.range_succ, HKN.out]
        · exact Nat.le_trans XL.out (KeepsOthers.setCell X _ _).size
      · have hne : ((a : Int) != (a2 : Int)) = true := by have := SNE.out hkn; simp; omega
        have HKN := Lib.hid hkn
        have q1 : ¬ (m : Int) ≤ (n : Int) := by omega
        clear hkn
        gi_wp2
        refine ⟨?_, rfl, ?_⟩
        · exact KeepsOthers.setCell _ _ _
        · intro h
          rw [List.map_append, List.length_append, HV.out, HNN.out] at h
          have h2 : List.range n ++ [k] = List.range (n + 1) := h
          rw [List.range_succ] at h2
          have h3 := List.append_cancel_left h2
          exact HKN.out (by simpa using h3)
end Go.Proofs.YtabfmhlhdebcpaaGreatDoor
namespace Go.Proofs.YtabfmhlhdebcpaaGreatDoor
open Go.RowKit Go.Shelf Fw
set_option linter.unusedVariables false
set_option linter.unusedSimpArgs false
attribute [local go_sem] Oper.semAt_some
namespace Fw
/-- What a call with the bytes d does. -/
def actS (x : St) (c : Cl) (d : Bs) : St :=
  if c.kind = 0 ∨ c.kind = 1 then dlS x c.off.toNat d else
  if c.kind = 2 ∨ c.kind = 3 then cmS x c.slot c.act else
  if c.kind = 4 then rsS x else
  if c.kind = 5 then (if imgOk c.rev d then dlS x 0 (imgB c.rev d) else x) else x
theorem Cl.one {w : World} {c : Cl} (h : Cl.R w c) : c.cells.toArray.all (·.oneCell') = true := by
  obtain ⟨-, -, ⟨xs, ⟨a, n, e, -⟩, -⟩, -⟩ := h
  unfold Cl.cells
  simp [Value.oneCell', e]
end Fw
/-- The first blocks of do. -/
structure DoAt (w : World) (W : World) (x : St) (lv : Value) (c : Cl) : Prop where
  bel : Below w.heap.size w W
  m : RbAt W w.heap.size x lv
  a : W.heap[w.heap.size + 1]? = some (.cells c.cells.toArray 44 (0, 0))
  r : W.heap[w.heap.size + 2]? = some (.cells #[.int .i64 0, .bool false, .string ⟨#[]⟩, .int .i64 0, .int .i64 0, .int .i64 0, .string ⟨#[]⟩, .string ⟨#[]⟩, .string ⟨#[]⟩, .string ⟨#[]⟩, .string ⟨#[]⟩, .string ⟨#[]⟩, .string ⟨#[]⟩, .slice none 0 0] 37 (0, 0))
  len : x.s.revs.length = 7
  one : lv.oneCell' = true
theorem DoAt.new (w : World) (x : St) (lv : Value) (c : Cl) (hl : x.s.revs.length = 7) (h1 : lv.oneCell' = true) : DoAt w (((w.alloc (.cells (x.cells lv).toArray 37)).alloc (.cells c.cells.toArray 44)).alloc (.cells #[.int .i64 0, .bool false, .string ⟨#[]⟩, .int .i64 0, .int .i64 0, .int .i64 0, .string ⟨#[]⟩, .string ⟨#[]⟩, .string ⟨#[]⟩, .string ⟨#[]⟩, .string ⟨#[]⟩, .string ⟨#[]⟩, .string ⟨#[]⟩, .slice none 0 0] 37)) x lv c :=
  ⟨gr_tr (gr_tr (gr_alloc w _) (gr_alloc _ _)) (gr_alloc _ _), ((RbAt.new w x lv).below (gr_alloc _ _)).below (gr_alloc _ _),
   blk_below (by rw [show w.heap.size + 1 = (w.alloc (.cells (x.cells lv).toArray 37)).heap.size by simp]; exact heap_alloc_new _ _) (gr_alloc _ _),
   by rw [show w.heap.size + 2 = ((w.alloc (.cells (x.cells lv).toArray 37)).alloc (.cells c.cells.toArray 44)).heap.size by simp]; exact heap_alloc_new _ _, hl, h1⟩
theorem DoAt.below {w W W' : World} {x : St} {lv : Value} {c : Cl} (h : DoAt w W x lv c) (hb : Below W.heap.size W W') : DoAt w W' x lv c :=
  ⟨gr_tr h.bel hb, h.m.below hb, blk_below h.a hb, blk_below h.r hb, h.len, h.one⟩
/-- What do promises. -/
def DoPost (p : Nat) (y : St) (w : World) (e : Ending) (w' : World) : Prop :=
  ∃ lv dvs lvr dvr, e = .returned (.tuple #[.agg (y.cells lvr).toArray, .bool true]) ∧ SlAt w' p y lv dvs ∧ PcsAt 67 w' y.ps lvr dvr ∧ Chg (fun k => k = p) w w'
theorem St.cells_len7 (x : St) (lv : Value) (h : x.s.revs.length = 7) : (x.cells lv).toArray.size = 14 := by rw [List.size_toArray]; exact St.cells_len x lv h
set_option maxRecDepth 20000 in
set_option maxHeartbeats 3200000 in
theorem do_none (p : Nat) (x : St) (lv lvr : Value) (dvs dvr : List Value) (c : Cl) (d : Bs) (w : World) (hd : SlAt w p x lv dvs) (hr : PcsAt 67 w x.ps lvr dvr) (hk : c.kind < 0 ∨ 5 < c.kind) :
    Calls Tryz.prog 15 #[.pointer (some ⟨p, 0, none⟩), .agg (x.cells lvr).toArray, .agg c.cells.toArray] w (DoPost p (actS x c d) w) := by
  have HS := Lib.hid (show actS x c d = x by unfold actS; rw [if_neg (by omega), if_neg (by omega), if_neg (by omega), if_neg (by omega)])
  obtain ⟨W, hW⟩ : ∃ W, W = ((w.alloc (.cells (x.cells lvr).toArray 37)).alloc (.cells c.cells.toArray 44)).alloc (.cells #[.int .i64 0, .bool false, .string ⟨#[]⟩, .int .i64 0, .int .i64 0, .int .i64 0, .string ⟨#[]⟩, .string ⟨#[]⟩, .string ⟨#[]⟩, .string ⟨#[]⟩, .string ⟨#[]⟩, .string ⟨#[]⟩, .string ⟨#[]⟩, .slice none 0 0] 37) := ⟨_, rfl⟩
  have A0 := Lib.hid (show DoAt w W x lvr c by rw [hW]; exact DoAt.new w x lvr c hd.ok.len (own_one' hr.own))
  have DD := Lib.hid hd; have RR := Lib.hid hr
  have ck : W.cell? ⟨w.heap.size + 1, 0, none⟩ = some (.int .i64 c.kind) := (cell_of_row _ _ 0 _ _ _ A0.out.a).trans rfl
  obtain ⟨cs, hcs⟩ : ∃ z, (x.cells lvr).toArray = z := ⟨_, rfl⟩
  obtain ⟨cc, hcc⟩ : ∃ z, c.cells.toArray = z := ⟨_, rfl⟩
  rw [hcs, hcc] at hW ⊢
  have HW := Lib.hid hW
  obtain ⟨k, hkk⟩ : ∃ z, c.kind = z := ⟨_, rfl⟩
  rw [hkk] at ck hk
  have k0 : (k == 0) = false := by rw [beq_eq_false_iff_ne]; omega
  have k1 : (k == 1) = false := by rw [beq_eq_false_iff_ne]; omega
  have k2 : (k == 2) = false := by rw [beq_eq_false_iff_ne]; omega
  have k3 : (k == 3) = false := by rw [beq_eq_false_iff_ne]; omega
  have k4 : (k == 4) = false := by rw [beq_eq_false_iff_ne]; omega
  have k5 : (k == 5) = false := by rw [beq_eq_false_iff_ne]; omega
  clear hW hd hr hcs hcc hkk hk
  go_enter Tryz.func15, Tryz.ntmps15
  go_upto_region 1 with fail
  rw [← HW.out]
  go_wp2_with (first
    | (refine wpList_load_row rfl 37 (.tmp 4) rfl w.heap.size rfl 37 (x.cells lvr).toArray (0, 0) _ A0.out.m Tryz.underlying37 rfl (by rw [St.cells_len7 x lvr A0.out.len]; kernel_rfl) ?_)
    | (refine wpList_store_rowC rfl 37 (.tmp 6) (.tmp 151) rfl (w.heap.size + 2) (x.cells lvr).toArray rfl rfl 37 _ A0.out.r (by rw [St.cells_len7 x lvr A0.out.len]; kernel_rfl) (by rw [St.cells_len7 x lvr A0.out.len]; rfl) (St.cells_one x lvr A0.out.one) ?_; intro w9 h9 hc; have X9 := Lib.hid h9; have C9 := Lib.hid hc; clear h9 hc))
  refine bodyPost_ret (results_row_tmp rfl _ _ (w.heap.size + 2) 37 _ (0, 0) _ rfl X9.out Tryz.underlying37 rfl (by rw [St.cells_len7 x lvr A0.out.len]; kernel_rfl)) rfl ?_
  have B9 : Below w.heap.size w w9 := A0.out.bel.trans (C9.out.below (fun k hk => by obtain rfl : k = w.heap.size + 2 := hk; omega) A0.out.bel.size)
  show DoPost p (actS x c d) w _ _
  rw [HS.out]
  exact ⟨lv, dvs, lvr, dvr, rfl, DD.out.below B9, RR.out.below B9, Chg.of_below B9⟩
end Go.Proofs.YtabfmhlhdebcpaaGreatDoor
namespace Go.Proofs.YtabfmhlhdebcpaaGreatDoor
set_option linter.unusedVariables false
set_option linter.unusedSimpArgs false
namespace Fw
theorem dlS_c (x : St) (a : Nat) (d : Bs) : (dlS x a d).c = x.c ∧ (dlS x a d).s = x.s := by
  unfold dlS; split <;> exact ⟨rfl, rfl⟩
theorem stS_c (x : St) (k : Int) : (stS x k).c = x.c ∧ (stS x k).s.act = x.s.act := by
  unfold stS; split
  · split <;> exact ⟨rfl, rfl⟩
  · exact ⟨rfl, rfl⟩
theorem cmS_c (x : St) (k a : Int) : (cmS x k a).c = x.c := by
  unfold cmS
  split
  · rfl
  · split
    · split <;> rfl
    · split
      · split <;> rfl
      · split
        · exact (stS_c x k).1
        · exact (stS_c x k).1
theorem rsS_c (x : St) : (rsS x).c = x.c := rfl
theorem actS_c (x : St) (c : Cl) (d : Bs) : (actS x c d).c = x.c := by
  unfold actS
  split
  · exact (dlS_c _ _ _).1
  · split
    · exact cmS_c _ _ _
    · split
      · rfl
      · split
        · split
          · exact (dlS_c _ _ _).1
          · rfl
        · rfl
theorem stS_rev {x : St} (h : Ok x) (k : Int) : revAt (stS x k) x.s.act = revAt x x.s.act := by
  unfold stS
  split
  · rename_i hw
    obtain ⟨w1, w2, w3, w4⟩ := wr_is hw
    obtain ⟨c1, c2, -⟩ := cfgOk_is h.cfg
    split
    · rfl
    · rw [revAt_set x (pick x k) x.s.act (nm x.ps) ⟨w1, by omega⟩ h.act.1 h.len { x with ps := [], s := { x.s with revs := x.s.revs.set (pick x k - 1).toNat (nm x.ps) } } rfl, if_neg (fun e => w3 e.symm)]
  · rfl
/-- The active slot keeps its revision while it is active. -/
theorem actS_rev {x : St} (h : Ok x) (c : Cl) (d : Bs) : revAt (actS x c d) x.s.act = revAt x x.s.act := by
  unfold actS
  split
  · unfold revAt; rw [(dlS_c _ _ _).2]
  · split
    · unfold cmS
      split
      · rfl
      · split
        · split <;> rfl
        · split
          · split <;> rfl
          · split
            · exact stS_rev h _
            · exact stS_rev h _
    · split
      · unfold rsS revAt; split <;> rfl
      · split
        · split
          · unfold revAt; rw [(dlS_c _ _ _).2]
          · rfl
        · rfl
end Fw
end Go.Proofs.YtabfmhlhdebcpaaGreatDoor
namespace Go.Proofs.YtabfmhlhdebcpaaGreatDoor
open Go.RowKit Go.Shelf Fw
set_option linter.unusedVariables false
set_option linter.unusedSimpArgs false
attribute [local go_sem] Oper.semAt_some
theorem Fw.PcsAt.slot {T : TypeId} {w w' : World} {p : Nat} {x : St} {lv lvr : Value} {dvs dvr : List Value} {ps : List Pc} (h : PcsAt T w ps lvr dvr) (hd : SlAt w p x lv dvs) (hT : 74 ≠ T) (hc : Chg (fun k => k = p) w w') : PcsAt T w' ps lvr dvr :=
  h.set hd.blk hT (by decide) hc
set_option maxRecDepth 20000 in
set_option maxHeartbeats 3200000 in
theorem do_reset (p : Nat) (x : St) (lv lvr : Value) (dvs dvr : List Value) (c : Cl) (d : Bs) (w : World) (hd : SlAt w p x lv dvs) (hr : PcsAt 67 w x.ps lvr dvr) (hk : c.kind = 4) :
    Calls Tryz.prog 15 #[.pointer (some ⟨p, 0, none⟩), .agg (x.cells lvr).toArray, .agg c.cells.toArray] w (DoPost p (actS x c d) w) := by
  have HS := Lib.hid (show actS x c d = rsS x by unfold actS; rw [if_neg (by omega), if_neg (by omega), if_pos hk])
  have HPS := Lib.hid (show (rsS x).ps = [] from rfl)
  obtain ⟨W, hW⟩ : ∃ W, W = ((w.alloc (.cells (x.cells lvr).toArray 37)).alloc (.cells c.cells.toArray 44)).alloc (.cells #[.int .i64 0, .bool false, .string ⟨#[]⟩, .int .i64 0, .int .i64 0, .int .i64 0, .string ⟨#[]⟩, .string ⟨#[]⟩, .string ⟨#[]⟩, .string ⟨#[]⟩, .string ⟨#[]⟩, .string ⟨#[]⟩, .string ⟨#[]⟩, .slice none 0 0] 37) := ⟨_, rfl⟩
  have A0 := Lib.hid (show DoAt w W x lvr c by rw [hW]; exact DoAt.new w x lvr c hd.ok.len (own_one' hr.own))
  have PL := Lib.hid (show p < w.heap.size from (Array.getElem?_eq_some_iff.1 hd.blk).1)
  have DD := Lib.hid hd; have RR := Lib.hid hr
  have RST := Lib.hid (fun W' h => Reset_at p x lv dvs W' h)
  have RRS := Lib.hid (fun W' => rReset_at x lvr W' hd.ok.len (own_one' hr.own))
  have AGR := Lib.hid (fun W' (h : SlAt W' p (rsS x) (.slice none 0 0) []) => agrees_at p (rsS x) (.slice none 0 0) (.slice none 0 0) [] [] W' h (PcsAt.nil _ _))
  have L7 := Lib.hid (show (rsS x).s.revs.length = 7 by unfold rsS; split <;> exact hd.ok.len)
  have ck : W.cell? ⟨w.heap.size + 1, 0, none⟩ = some (.int .i64 c.kind) := (cell_of_row _ _ 0 _ _ _ A0.out.a).trans rfl
  rw [hk] at ck
  obtain ⟨cs, hcs⟩ : ∃ z, (x.cells lvr).toArray = z := ⟨_, rfl⟩
  obtain ⟨cc, hcc⟩ : ∃ z, c.cells.toArray = z := ⟨_, rfl⟩
  obtain ⟨y, hy⟩ : ∃ z, rsS x = z := ⟨_, rfl⟩
  obtain ⟨bb, hbb⟩ : ∃ z, rsB x = z := ⟨_, rfl⟩
  rw [hy, hbb] at RST RRS
  rw [hy] at AGR L7 HPS HS
  rw [hcs, hcc] at hW ⊢
  have HW := Lib.hid hW
  clear hW hd hr hcs hcc hk hy hbb
  go_enter Tryz.func15, Tryz.ntmps15
  go_upto_region 1 with fail
  rw [← HW.out]
  go_upto_region 19 with (go_at_call 24; go_loud (refine (RST.out _ (DD.out.below A0.out.bel)).mono ?_; rintro e w1 ⟨rfl, hs, hc⟩; have SL1 := Lib.hid hs; have CH1 := Lib.hid hc; clear hs hc))
  have M1 := Lib.hid (CH1.out.blk A0.out.m (fun e => by have := PL.out; have e' : w.heap.size = p := e; omega))
  have RS1 := Lib.hid (CH1.out.blk A0.out.r (fun e => by have := PL.out; have e' : w.heap.size + 2 = p := e; omega))
  have SZX := Lib.hid (St.cells_len7 x lvr A0.out.len)
  have SZY := Lib.hid (St.cells_len7 y (.slice none 0 0) L7.out)
  have ONY := Lib.hid (St.cells_one y (.slice none 0 0) rfl)
  obtain ⟨cy, hcy⟩ : ∃ z, y.cells (.slice none 0 0) = z := ⟨_, rfl⟩
  have HCY := Lib.hid hcy
  rw [hcy] at RRS AGR SZY ONY
  have hbq : (bb == bb) = true := by simp
  clear hcy ck
  go_upto_region 20 with (first
    | (refine wpList_load_row rfl 37 (.tmp 4) rfl w.heap.size rfl 37 (x.cells lvr).toArray (0, 0) _ M1.out Tryz.underlying37 rfl (by rw [SZX.out]; kernel_rfl) ?_)
    | (go_at_call 32; go_loud (refine (RRS.out _).mono ?_; rintro e w2 ⟨rfl, hb⟩; have B2 := Lib.hid hb; clear hb))
    | (refine wpList_store_new rfl 37 (.tmp 18) (.tmp 105) rfl cy.toArray 37 _ rfl rfl (by rw [SZY.out]; kernel_rfl) (by rw [SZY.out]; rfl) ONY.out ?_; intro w3 hh hw; have Y3 := Lib.hid hh; have B3 := Lib.hid (gr_tr B2.out hw); clear hh hw))
  obtain ⟨g, hg⟩ : ∃ z, w2.heap.size = z := ⟨_, rfl⟩
  have GQ := Lib.hid (show w.heap.size + 2 < g by rw [← hg]; exact Nat.lt_of_lt_of_le (Array.getElem?_eq_some_iff.1 RS1.out).1 B2.out.size)
  rw [hg] at Y3 ⊢
  have RG := Lib.hid (show w3.rangeAt g 0 cy from fun j v hj => by
    rw [Nat.zero_add]
    exact (cell_of_row _ _ j _ _ _ Y3.out).trans (by rw [List.getElem?_toArray, hj]))
  have SL3 := Lib.hid (SL1.out.below B3.out)
  have RS3 := Lib.hid (blk_below RS1.out B3.out)
  have SZC := Lib.hid (show cy.length = 14 by have := SZY.out; simpa using this)
  have NB := Lib.hid (show ¬ g = w.heap.size + 2 by have := GQ.out; omega)
  clear hg
  refine wp_calm ?_
  refine wp_region_planW (fun k => k = w.heap.size + 2) [(true, 0), (true, 1), (true, 2), (true, 3), (true, 4), (true, 5), (true, 6), (true, 7), (true, 8), (true, 9), (true, 10), (false, 11), (true, 12), (false, 13), (true, 14)] (by kernel_rfl) (by kernel_rfl) (by intro c a d v w h; cases d <;> exact h) ?_
  intro W1 K1 C1
  refine wpS_load_mid rfl rfl 37 (.tmp 18) rfl g 0 rfl cy _ (fun x hx => Keep.rng hx RG.out NB.out) Tryz.underlying37 rfl (by rw [SZC.out]; kernel_rfl) ?_
  repeat (refine wpS_firm rfl (fun K hK => ?_); simp only [Keep]; go_simp; refine hK _ ?_; clear hK K)
  refine wpS_load_mid rfl rfl 37 (.tmp 18) rfl g 0 rfl cy _ (fun x hx => Keep.rng hx RG.out NB.out) Tryz.underlying37 rfl (by rw [SZC.out]; kernel_rfl) ?_
  refine wpS_chain rfl ?_
  go_wp2_with (go_at_call 27; go_loud (refine (AGR.out _ (SL3.out.below C1.out)).mono ?_; rintro e w5 ⟨rfl, hb⟩; have B5 := Lib.hid (gr_tr C1.out hb); have K5 := Lib.hid (K1.out.chgK (Chg.of_below (B := fun k => k = w.heap.size + 2) hb) (fun k hk => .inl hk)); clear hb))
  refine ⟨K5.out, ?_⟩
  repeat (refine wpS_firm rfl (fun K hK => ?_); simp only [Keep]; go_simp; refine hK _ ?_; clear hK K)
  have RS5 := Lib.hid (blk_below RS3.out B5.out)
  refine wpS_chain rfl ?_
  refine wpList_store_rowC rfl 37 (.tmp 6) (.tmp 107) rfl (w.heap.size + 2) cy.toArray rfl rfl 37 _ RS5.out (by rw [SZY.out]; kernel_rfl) (by rw [SZY.out]; rfl) ONY.out ?_
  intro w9 h9 hc
  have X9 := Lib.hid h9; have C9 := Lib.hid hc
  have K9 := Lib.hid (K5.out.chgK hc (fun k hk => .inl hk))
  clear h9 hc
  go_wp2
  refine ⟨K9.out, ?_⟩
  repeat (refine wpS_firm rfl (fun K hK => ?_); simp only [Keep]; go_simp; refine hK _ ?_; clear hK K)
  unfold wpS
  go_wp2
  refine bodyPost_ret (results_row_tmp rfl _ _ (w.heap.size + 2) 37 _ (0, 0) _ rfl X9.out Tryz.underlying37 rfl (by rw [SZY.out]; kernel_rfl)) rfl ?_
  show DoPost p (actS x c d) w _ _
  rw [HS.out]
  have CHG := newer_chg (((Chg.of_below (B := fun k => k = p) A0.out.bel).trans CH1.out).trans (Chg.of_below (gr_tr B3.out B5.out))) (show w.heap.size ≤ w.heap.size + 2 by omega) C9.out
  exact ⟨.slice none 0 0, [], .slice none 0 0, [], by rw [HCY.out]; rfl, (SL3.out.below B5.out).set RS5.out (by decide) (by decide) (by decide) C9.out, by rw [HPS.out]; exact PcsAt.nil _ _, CHG⟩
end Go.Proofs.YtabfmhlhdebcpaaGreatDoor
namespace Go.Proofs.YtabfmhlhdebcpaaGreatDoor
open Go.RowKit Go.Shelf Fw
set_option linter.unusedVariables false
set_option linter.unusedSimpArgs false
attribute [local go_sem] Oper.semAt_some
namespace Fw
def stL (c : Nat) : List Value := [.int .u8 ((c / 256 : Nat) : Int), .int .u8 ((c % 256 : Nat) : Int), .bool false, .bool false]
end Fw
theorem cmE_kn (x : St) (k a : Int) : Kn (cmE x k a) := by
  unfold cmE
  split
  · exact Kn.k2
  · split
    · split
      · exact Kn.k0
      · exact Kn.k262
    · rcases stE_is x k with h | h | h <;> rw [h]
      · exact Kn.k0
      · exact Kn.k262
      · exact Kn.k263
set_option maxRecDepth 20000 in
set_option maxHeartbeats 6400000 in
theorem do_commit2 (p : Nat) (x : St) (lv lvr : Value) (dvs dvr : List Value) (c : Cl) (d : Bs) (w : World) (hd : SlAt w p x lv dvs) (hr : PcsAt 67 w x.ps lvr dvr) (hI : I64 c.slot) (hk : c.kind = 2) :
    Calls Tryz.prog 15 #[.pointer (some ⟨p, 0, none⟩), .agg (x.cells lvr).toArray, .agg c.cells.toArray] w (DoPost p (actS x c d) w) := by
  have HS := Lib.hid (show actS x c d = cmS x c.slot c.act by unfold actS; rw [if_neg (by omega), if_pos (by omega)])
  obtain ⟨W, hW⟩ : ∃ W, W = ((w.alloc (.cells (x.cells lvr).toArray 37)).alloc (.cells c.cells.toArray 44)).alloc (.cells #[.int .i64 0, .bool false, .string ⟨#[]⟩, .int .i64 0, .int .i64 0, .int .i64 0, .string ⟨#[]⟩, .string ⟨#[]⟩, .string ⟨#[]⟩, .string ⟨#[]⟩, .string ⟨#[]⟩, .string ⟨#[]⟩, .string ⟨#[]⟩, .slice none 0 0] 37) := ⟨_, rfl⟩
  have A0 := Lib.hid (show DoAt w W x lvr c by rw [hW]; exact DoAt.new w x lvr c hd.ok.len (own_one' hr.own))
  have PL := Lib.hid (show p < w.heap.size from (Array.getElem?_eq_some_iff.1 hd.blk).1)
  have DD := Lib.hid hd; have RR := Lib.hid hr
  have CMT := Lib.hid (fun W' h => Commit_at p x lv dvs c.slot c.act W' h)
  have RCM := Lib.hid (fun W' (h : PcsAt 67 W' x.ps lvr dvr) => rCommit_at x lvr dvr c.slot c.act W' hd.ok h hI)
  have AGR := Lib.hid (fun W' lv1 dv1 lv2 dv2 (h : SlAt W' p (cmS x c.slot c.act) lv1 dv1) h2 => agrees_at p (cmS x c.slot c.act) lv1 lv2 dv1 dv2 W' h h2)
  have ISA := Lib.hid (fun w => is_at (cmE x c.slot c.act) (cmE x c.slot c.act) true w (cmE_kn x c.slot c.act) (by simp))
  have ck : W.cell? ⟨w.heap.size + 1, 0, none⟩ = some (.int .i64 c.kind) := (cell_of_row _ _ 0 _ _ _ A0.out.a).trans rfl
  rw [hk] at ck
  have c3 : W.cell? ⟨w.heap.size + 1, 3, none⟩ = some (.int .i64 c.slot) := (cell_of_row _ _ 3 _ _ _ A0.out.a).trans rfl
  have c4 : W.cell? ⟨w.heap.size + 1, 4, none⟩ = some (.int .i64 c.act) := (cell_of_row _ _ 4 _ _ _ A0.out.a).trans rfl
  obtain ⟨cs, hcs⟩ : ∃ z, (x.cells lvr).toArray = z := ⟨_, rfl⟩
  obtain ⟨cc, hcc⟩ : ∃ z, c.cells.toArray = z := ⟨_, rfl⟩
  rw [hcs, hcc] at hW ⊢
  have HW := Lib.hid hW
  have AR := Lib.hid A0.out.a
  have SZX := Lib.hid (St.cells_len7 x lvr A0.out.len)
  obtain ⟨y, hy⟩ : ∃ z, cmS x c.slot c.act = z := ⟨_, rfl⟩
  obtain ⟨E, hE⟩ : ∃ z, cmE x c.slot c.act = z := ⟨_, rfl⟩
  rw [hy, hE] at CMT RCM
  rw [hy] at AGR HS
  rw [hE] at ISA
  obtain ⟨se, hse⟩ : ∃ z, stL E = z := ⟨_, rfl⟩
  have SZE := Lib.hid (show se.length = 4 by rw [← hse]; rfl)
  have SZEA := Lib.hid (show se.toArray.size = 4 by rw [← hse]; rfl)
  have ONE := Lib.hid (show se.toArray.all (·.oneCell') = true by rw [← hse]; exact stC_one E)
  replace CMT := Lib.hid (show ∀ W' (h : SlAt W' p x lv dvs), Calls Tryz.prog 22 #[.pointer (some ⟨p, 0, none⟩), .int .i64 c.slot, .int .i64 c.act] W' (fun e w' => ∃ lv' dvs', e = .returned (.agg se.toArray) ∧ SlAt w' p y lv' dvs' ∧ Chg (fun k => k = p) W' w') from by rw [← hse]; exact CMT.out)
  replace ISA := Lib.hid (show ∀ w, Calls Tryz.prog 20 #[.agg se.toArray, .int .i64 (E : Int)] w (fun e w' => e = .returned (.bool true) ∧ Below w.heap.size w w') from by rw [← hse]; exact ISA.out)
  obtain ⟨EI, hEI⟩ : ∃ z, (E : Int) = z := ⟨_, rfl⟩
  rw [hEI] at ISA RCM
  obtain ⟨ks, hks⟩ : ∃ z, c.slot = z := ⟨_, rfl⟩
  obtain ⟨ka, hka⟩ : ∃ z, c.act = z := ⟨_, rfl⟩
  rw [hks, hka] at CMT RCM
  rw [hks] at c3
  rw [hka] at c4
  have HKS := Lib.hid hks
  have HKA := Lib.hid hka
  clear hy hE hI hse hEI hW hd hr hcs hcc hk hks hka
  go_enter Tryz.func15, Tryz.ntmps15
  go_upto_region 1 with fail
  rw [← HW.out]
  go_upto_region 15 with (first
    | (go_at_call 22; go_loud (refine (CMT.out _ (DD.out.below A0.out.bel)).mono ?_; rintro e w1 ⟨lv1, dv1, rfl, hs, hc⟩; have SL1 := Lib.hid hs; have CH1 := Lib.hid hc; clear hs hc))
    | (refine wpList_store_new rfl 56 (.tmp 13) (.tmp 76) rfl se.toArray 56 _ rfl rfl (by rw [SZEA.out]; kernel_rfl) (by rw [SZEA.out]; rfl) ONE.out ?_; intro w2 hh hw; have T2 := Lib.hid hh; have B2 := Lib.hid hw; clear hh hw))
  have M2 := Lib.hid (blk_below (CH1.out.blk A0.out.m (fun e => by have := PL.out; have e' : w.heap.size = p := e; omega)) B2.out)
  have RS2 := Lib.hid (blk_below (CH1.out.blk A0.out.r (fun e => by have := PL.out; have e' : w.heap.size + 2 = p := e; omega)) B2.out)
  have AR2 := Lib.hid (blk_below (CH1.out.blk AR.out (fun e => by have := PL.out; have e' : w.heap.size + 1 = p := e; omega)) B2.out)
  have RR2 := Lib.hid (((RR.out.below A0.out.bel).slot (DD.out.below A0.out.bel) (by decide) CH1.out).below B2.out)
  have d3 : w2.cell? ⟨w.heap.size + 1, 3, none⟩ = some (.int .i64 ks) := (cell_of_row _ _ 3 _ _ _ AR2.out).trans (by rw [← HKS.out]; rfl)
  have d4 : w2.cell? ⟨w.heap.size + 1, 4, none⟩ = some (.int .i64 ka) := (cell_of_row _ _ 4 _ _ _ AR2.out).trans (by rw [← HKA.out]; rfl)
  obtain ⟨gs, hgs⟩ : ∃ z, w1.heap.size = z := ⟨_, rfl⟩
  have HGS := Lib.hid (show w.heap.size + 2 < gs by rw [← hgs]; exact Nat.lt_of_lt_of_le (Array.getElem?_eq_some_iff.1 A0.out.r).1 CH1.out.size)
  rw [hgs] at T2 ⊢
  have CH2 := Lib.hid (((Chg.of_below (B := fun k => k = p) A0.out.bel).trans CH1.out).trans (Chg.of_below B2.out))
  have SL2 := Lib.hid (SL1.out.below B2.out)
  have L7 := Lib.hid SL1.out.ok.len
  clear c3 c4 ck hgs AR AR2 CMT RR SL1 CH1 B2
  go_upto_region 16 with (first
    | (refine wpList_load_row rfl 37 (.tmp 4) rfl w.heap.size rfl 37 (x.cells lvr).toArray (0, 0) _ M2.out Tryz.underlying37 rfl (by rw [SZX.out]; kernel_rfl) ?_)
    | (go_at_call 31; go_loud (refine (RCM.out _ RR2.out).mono ?_; rintro e w3 ⟨lv2, dv2, rfl, h2, -, hb⟩; have PR3 := Lib.hid h2; have B3 := Lib.hid hb; have SZY := Lib.hid (St.cells_len7 y lv2 L7.out); have ONY := Lib.hid (St.cells_one y lv2 (own_one' h2.own)); clear h2 hb; obtain ⟨cy, hcy⟩ : ∃ z, y.cells lv2 = z := ⟨_, rfl⟩; have HCY := Lib.hid hcy; rw [hcy] at SZY ONY ⊢; clear hcy))
    | (refine wpList_store_new rfl 37 (.tmp 14) (.tmp 84) rfl cy.toArray 37 _ rfl rfl (by rw [SZY.out]; kernel_rfl) (by rw [SZY.out]; rfl) ONY.out ?_; intro w4 hh hw; have Y4 := Lib.hid hh; have B34 := Lib.hid hw; have B4 := Lib.hid (gr_tr B3.out hw); clear hh hw))
  obtain ⟨g, hg⟩ : ∃ z, w3.heap.size = z := ⟨_, rfl⟩
  have GQ := Lib.hid (show w.heap.size + 2 < g by rw [← hg]; exact Nat.lt_of_lt_of_le (Array.getElem?_eq_some_iff.1 RS2.out).1 B3.out.size)
  rw [hg] at Y4 ⊢
  have RG := Lib.hid (show w4.rangeAt g 0 cy from fun j v hj => by
    rw [Nat.zero_add]
    exact (cell_of_row _ _ j _ _ _ Y4.out).trans (by rw [List.getElem?_toArray, hj]))
  have RGE := Lib.hid (show w4.rangeAt gs 0 se from fun j v hj => by
    rw [Nat.zero_add]
    exact (cell_of_row _ _ j _ _ _ (blk_below T2.out B4.out)).trans (by rw [List.getElem?_toArray, hj]))
  have SL4 := Lib.hid (SL2.out.below B4.out)
  have PR4 := Lib.hid (PR3.out.below B34.out)
  have RS4 := Lib.hid (blk_below RS2.out B4.out)
  have CH4 := Lib.hid (CH2.out.trans (Chg.of_below B4.out))
  have SZC := Lib.hid (show cy.length = 14 by have := SZY.out; simpa using this)
  have NB := Lib.hid (show ¬ g = w.heap.size + 2 by have := GQ.out; omega)
  have NBE := Lib.hid (show ¬ gs = w.heap.size + 2 by have := HGS.out; omega)
  clear hg SL2 PR3 RS2 CH2 B4 B34
  have AGQ := Lib.hid (show ∀ W' lv1 dv1 dv2, SlAt W' p y lv1 dv1 → PcsAt 67 W' y.ps lv2 dv2 → Calls Tryz.prog 27 #[.pointer (some ⟨p, 0, none⟩), .agg cy.toArray] W' (fun e w' => e = .returned (.bool true) ∧ Below W'.heap.size W' w') from by rw [← HCY.out]; exact fun W' lv1 dv1 dv2 h h2 => AGR.out W' lv1 dv1 lv2 dv2 h h2)
  clear AGR
  refine wp_calm ?_
  refine wp_region_planW (fun k => k = w.heap.size + 2) [(true, 0), (true, 1), (true, 2), (false, 3), (true, 4), (true, 5), (true, 6), (false, 7), (true, 8), (false, 9), (true, 10)] (by kernel_rfl) (by kernel_rfl) (by intro c a d v w h; cases d <;> exact h) ?_
  intro W1 K1 C1
  refine wpS_load_mid rfl rfl 37 (.tmp 14) rfl g 0 rfl cy _ (fun x hx => Keep.rng hx RG.out NB.out) Tryz.underlying37 rfl (by rw [SZC.out]; kernel_rfl) ?_
  refine wpS_load_mid rfl rfl 56 (.tmp 13) rfl gs 0 rfl se _ (fun x hx => Keep.rng hx RGE.out NBE.out) Tryz.underlying56 rfl (by rw [SZE.out]; kernel_rfl) ?_
  (refine wpS_firm rfl (fun K hK => ?_); simp only [Keep]; go_simp; refine hK _ ?_; clear hK K)
  refine wpS_chain rfl ?_
  go_wp2_with (go_at_call 20; go_loud (refine (ISA.out _).mono ?_; rintro e w5 ⟨rfl, hb⟩; have B5 := Lib.hid (gr_tr C1.out hb); have K5 := Lib.hid (K1.out.chgK (Chg.of_below (B := fun k => k = w.heap.size + 2) hb) (fun k hk => .inl hk)); clear hb))
  refine ⟨K5.out, ?_⟩
  (refine wpS_firm rfl (fun K hK => ?_); simp only [Keep]; go_simp; refine hK _ ?_; clear hK K)
  (refine wpS_firm rfl (fun K hK => ?_); simp only [Keep]; go_simp; refine hK _ ?_; clear hK K)
  refine wpS_load_mid rfl rfl 37 (.tmp 14) rfl g 0 rfl cy _ (fun x hx => Keep.rng hx RG.out NB.out) Tryz.underlying37 rfl (by rw [SZC.out]; kernel_rfl) ?_
  refine wpS_chain rfl ?_
  go_wp2_with (go_at_call 27; go_loud (refine (AGQ.out _ _ _ _ (SL4.out.below B5.out) (PR4.out.below B5.out)).mono ?_; rintro e w6 ⟨rfl, hb⟩; have B6 := Lib.hid (gr_tr B5.out hb); have K6 := Lib.hid (K5.out.chgK (Chg.of_below (B := fun k => k = w.heap.size + 2) hb) (fun k hk => .inl hk)); clear hb))
  refine ⟨K6.out, ?_⟩
  (refine wpS_firm rfl (fun K hK => ?_); simp only [Keep]; go_simp; refine hK _ ?_; clear hK K)
  have RS6 := Lib.hid (blk_below RS4.out B6.out)
  refine wpS_chain rfl ?_
  refine wpList_store_rowC rfl 37 (.tmp 6) (.tmp 86) rfl (w.heap.size + 2) cy.toArray rfl rfl 37 _ RS6.out (by rw [SZY.out]; kernel_rfl) (by rw [SZY.out]; rfl) ONY.out ?_
  intro w9 h9 hc
  have X9 := Lib.hid h9; have C9 := Lib.hid hc
  have K9 := Lib.hid (K6.out.chgK hc (fun k hk => .inl hk))
  clear h9 hc
  go_wp2
  refine ⟨K9.out, ?_⟩
  repeat (refine wpS_firm rfl (fun K hK => ?_); simp only [Keep]; go_simp; refine hK _ ?_; clear hK K)
  unfold wpS
  go_wp2
  refine bodyPost_ret (results_row_tmp rfl _ _ (w.heap.size + 2) 37 _ (0, 0) _ rfl X9.out Tryz.underlying37 rfl (by rw [SZY.out]; kernel_rfl)) rfl ?_
  show DoPost p (actS x c d) w _ _
  rw [HS.out]
  have CHG := newer_chg (CH4.out.trans (Chg.of_below B6.out)) (show w.heap.size ≤ w.heap.size + 2 by omega) C9.out
  exact ⟨_, _, lv2, dv2, by rw [HCY.out]; rfl, (SL4.out.below B6.out).set RS6.out (by decide) (by decide) (by decide) C9.out, (PR4.out.below B6.out).set RS6.out (by decide) (by decide) C9.out, CHG⟩
set_option maxRecDepth 20000 in
set_option maxHeartbeats 6400000 in
theorem do_commit3 (p : Nat) (x : St) (lv lvr : Value) (dvs dvr : List Value) (c : Cl) (d : Bs) (w : World) (hd : SlAt w p x lv dvs) (hr : PcsAt 67 w x.ps lvr dvr) (hI : I64 c.slot) (hk : c.kind = 3) :
    Calls Tryz.prog 15 #[.pointer (some ⟨p, 0, none⟩), .agg (x.cells lvr).toArray, .agg c.cells.toArray] w (DoPost p (actS x c d) w) := by
  have HS := Lib.hid (show actS x c d = cmS x c.slot c.act by unfold actS; rw [if_neg (by omega), if_pos (by omega)])
  obtain ⟨W, hW⟩ : ∃ W, W = ((w.alloc (.cells (x.cells lvr).toArray 37)).alloc (.cells c.cells.toArray 44)).alloc (.cells #[.int .i64 0, .bool false, .string ⟨#[]⟩, .int .i64 0, .int .i64 0, .int .i64 0, .string ⟨#[]⟩, .string ⟨#[]⟩, .string ⟨#[]⟩, .string ⟨#[]⟩, .string ⟨#[]⟩, .string ⟨#[]⟩, .string ⟨#[]⟩, .slice none 0 0] 37) := ⟨_, rfl⟩
  have A0 := Lib.hid (show DoAt w W x lvr c by rw [hW]; exact DoAt.new w x lvr c hd.ok.len (own_one' hr.own))
  have PL := Lib.hid (show p < w.heap.size from (Array.getElem?_eq_some_iff.1 hd.blk).1)
  have DD := Lib.hid hd; have RR := Lib.hid hr
  have CMT := Lib.hid (fun W' h => Commit_at p x lv dvs c.slot c.act W' h)
  have RCM := Lib.hid (fun W' (h : PcsAt 67 W' x.ps lvr dvr) => rCommit_at x lvr dvr c.slot c.act W' hd.ok h hI)
  have AGR := Lib.hid (fun W' lv1 dv1 lv2 dv2 (h : SlAt W' p (cmS x c.slot c.act) lv1 dv1) h2 => agrees_at p (cmS x c.slot c.act) lv1 lv2 dv1 dv2 W' h h2)
  have ISA := Lib.hid (fun w => is_at (cmE x c.slot c.act) (cmE x c.slot c.act) true w (cmE_kn x c.slot c.act) (by simp))
  have ck : W.cell? ⟨w.heap.size + 1, 0, none⟩ = some (.int .i64 c.kind) := (cell_of_row _ _ 0 _ _ _ A0.out.a).trans rfl
  rw [hk] at ck
  have c3 : W.cell? ⟨w.heap.size + 1, 3, none⟩ = some (.int .i64 c.slot) := (cell_of_row _ _ 3 _ _ _ A0.out.a).trans rfl
  have c4 : W.cell? ⟨w.heap.size + 1, 4, none⟩ = some (.int .i64 c.act) := (cell_of_row _ _ 4 _ _ _ A0.out.a).trans rfl
  obtain ⟨cs, hcs⟩ : ∃ z, (x.cells lvr).toArray = z := ⟨_, rfl⟩
  obtain ⟨cc, hcc⟩ : ∃ z, c.cells.toArray = z := ⟨_, rfl⟩
  rw [hcs, hcc] at hW ⊢
  have HW := Lib.hid hW
  have AR := Lib.hid A0.out.a
  have SZX := Lib.hid (St.cells_len7 x lvr A0.out.len)
  obtain ⟨y, hy⟩ : ∃ z, cmS x c.slot c.act = z := ⟨_, rfl⟩
  obtain ⟨E, hE⟩ : ∃ z, cmE x c.slot c.act = z := ⟨_, rfl⟩
  rw [hy, hE] at CMT RCM
  rw [hy] at AGR HS
  rw [hE] at ISA
  obtain ⟨se, hse⟩ : ∃ z, stL E = z := ⟨_, rfl⟩
  have SZE := Lib.hid (show se.length = 4 by rw [← hse]; rfl)
  have SZEA := Lib.hid (show se.toArray.size = 4 by rw [← hse]; rfl)
  have ONE := Lib.hid (show se.toArray.all (·.oneCell') = true by rw [← hse]; exact stC_one E)
  replace CMT := Lib.hid (show ∀ W' (h : SlAt W' p x lv dvs), Calls Tryz.prog 22 #[.pointer (some ⟨p, 0, none⟩), .int .i64 c.slot, .int .i64 c.act] W' (fun e w' => ∃ lv' dvs', e = .returned (.agg se.toArray) ∧ SlAt w' p y lv' dvs' ∧ Chg (fun k => k = p) W' w') from by rw [← hse]; exact CMT.out)
  replace ISA := Lib.hid (show ∀ w, Calls Tryz.prog 20 #[.agg se.toArray, .int .i64 (E : Int)] w (fun e w' => e = .returned (.bool true) ∧ Below w.heap.size w w') from by rw [← hse]; exact ISA.out)
  obtain ⟨EI, hEI⟩ : ∃ z, (E : Int) = z := ⟨_, rfl⟩
  rw [hEI] at ISA RCM
  obtain ⟨ks, hks⟩ : ∃ z, c.slot = z := ⟨_, rfl⟩
  obtain ⟨ka, hka⟩ : ∃ z, c.act = z := ⟨_, rfl⟩
  rw [hks, hka] at CMT RCM
  rw [hks] at c3
  rw [hka] at c4
  have HKS := Lib.hid hks
  have HKA := Lib.hid hka
  clear hy hE hI hse hEI hW hd hr hcs hcc hk hks hka
  go_enter Tryz.func15, Tryz.ntmps15
  go_upto_region 1 with fail
  rw [← HW.out]
  go_upto_region 15 with (first
    | (go_at_call 22; go_loud (refine (CMT.out _ (DD.out.below A0.out.bel)).mono ?_; rintro e w1 ⟨lv1, dv1, rfl, hs, hc⟩; have SL1 := Lib.hid hs; have CH1 := Lib.hid hc; clear hs hc))
    | (refine wpList_store_new rfl 56 (.tmp 13) (.tmp 76) rfl se.toArray 56 _ rfl rfl (by rw [SZEA.out]; kernel_rfl) (by rw [SZEA.out]; rfl) ONE.out ?_; intro w2 hh hw; have T2 := Lib.hid hh; have B2 := Lib.hid hw; clear hh hw))
  have M2 := Lib.hid (blk_below (CH1.out.blk A0.out.m (fun e => by have := PL.out; have e' : w.heap.size = p := e; omega)) B2.out)
  have RS2 := Lib.hid (blk_below (CH1.out.blk A0.out.r (fun e => by have := PL.out; have e' : w.heap.size + 2 = p := e; omega)) B2.out)
  have AR2 := Lib.hid (blk_below (CH1.out.blk AR.out (fun e => by have := PL.out; have e' : w.heap.size + 1 = p := e; omega)) B2.out)
  have RR2 := Lib.hid (((RR.out.below A0.out.bel).slot (DD.out.below A0.out.bel) (by decide) CH1.out).below B2.out)
  have d3 : w2.cell? ⟨w.heap.size + 1, 3, none⟩ = some (.int .i64 ks) := (cell_of_row _ _ 3 _ _ _ AR2.out).trans (by rw [← HKS.out]; rfl)
  have d4 : w2.cell? ⟨w.heap.size + 1, 4, none⟩ = some (.int .i64 ka) := (cell_of_row _ _ 4 _ _ _ AR2.out).trans (by rw [← HKA.out]; rfl)
  obtain ⟨gs, hgs⟩ : ∃ z, w1.heap.size = z := ⟨_, rfl⟩
  have HGS := Lib.hid (show w.heap.size + 2 < gs by rw [← hgs]; exact Nat.lt_of_lt_of_le (Array.getElem?_eq_some_iff.1 A0.out.r).1 CH1.out.size)
  rw [hgs] at T2 ⊢
  have CH2 := Lib.hid (((Chg.of_below (B := fun k => k = p) A0.out.bel).trans CH1.out).trans (Chg.of_below B2.out))
  have SL2 := Lib.hid (SL1.out.below B2.out)
  have L7 := Lib.hid SL1.out.ok.len
  clear c3 c4 ck hgs AR AR2 CMT RR SL1 CH1 B2
  go_upto_region 16 with (first
    | (refine wpList_load_row rfl 37 (.tmp 4) rfl w.heap.size rfl 37 (x.cells lvr).toArray (0, 0) _ M2.out Tryz.underlying37 rfl (by rw [SZX.out]; kernel_rfl) ?_)
    | (go_at_call 31; go_loud (refine (RCM.out _ RR2.out).mono ?_; rintro e w3 ⟨lv2, dv2, rfl, h2, -, hb⟩; have PR3 := Lib.hid h2; have B3 := Lib.hid hb; have SZY := Lib.hid (St.cells_len7 y lv2 L7.out); have ONY := Lib.hid (St.cells_one y lv2 (own_one' h2.own)); clear h2 hb; obtain ⟨cy, hcy⟩ : ∃ z, y.cells lv2 = z := ⟨_, rfl⟩; have HCY := Lib.hid hcy; rw [hcy] at SZY ONY ⊢; clear hcy))
    | (refine wpList_store_new rfl 37 (.tmp 14) (.tmp 84) rfl cy.toArray 37 _ rfl rfl (by rw [SZY.out]; kernel_rfl) (by rw [SZY.out]; rfl) ONY.out ?_; intro w4 hh hw; have Y4 := Lib.hid hh; have B34 := Lib.hid hw; have B4 := Lib.hid (gr_tr B3.out hw); clear hh hw))
  obtain ⟨g, hg⟩ : ∃ z, w3.heap.size = z := ⟨_, rfl⟩
  have GQ := Lib.hid (show w.heap.size + 2 < g by rw [← hg]; exact Nat.lt_of_lt_of_le (Array.getElem?_eq_some_iff.1 RS2.out).1 B3.out.size)
  rw [hg] at Y4 ⊢
  have RG := Lib.hid (show w4.rangeAt g 0 cy from fun j v hj => by
    rw [Nat.zero_add]
    exact (cell_of_row _ _ j _ _ _ Y4.out).trans (by rw [List.getElem?_toArray, hj]))
  have RGE := Lib.hid (show w4.rangeAt gs 0 se from fun j v hj => by
    rw [Nat.zero_add]
    exact (cell_of_row _ _ j _ _ _ (blk_below T2.out B4.out)).trans (by rw [List.getElem?_toArray, hj]))
  have SL4 := Lib.hid (SL2.out.below B4.out)
  have PR4 := Lib.hid (PR3.out.below B34.out)
  have RS4 := Lib.hid (blk_below RS2.out B4.out)
  have CH4 := Lib.hid (CH2.out.trans (Chg.of_below B4.out))
  have SZC := Lib.hid (show cy.length = 14 by have := SZY.out; simpa using this)
  have NB := Lib.hid (show ¬ g = w.heap.size + 2 by have := GQ.out; omega)
  have NBE := Lib.hid (show ¬ gs = w.heap.size + 2 by have := HGS.out; omega)
  clear hg SL2 PR3 RS2 CH2 B4 B34
  have AGQ := Lib.hid (show ∀ W' lv1 dv1 dv2, SlAt W' p y lv1 dv1 → PcsAt 67 W' y.ps lv2 dv2 → Calls Tryz.prog 27 #[.pointer (some ⟨p, 0, none⟩), .agg cy.toArray] W' (fun e w' => e = .returned (.bool true) ∧ Below W'.heap.size W' w') from by rw [← HCY.out]; exact fun W' lv1 dv1 dv2 h h2 => AGR.out W' lv1 dv1 lv2 dv2 h h2)
  clear AGR
  refine wp_calm ?_
  refine wp_region_planW (fun k => k = w.heap.size + 2) [(true, 0), (true, 1), (true, 2), (false, 3), (true, 4), (true, 5), (true, 6), (false, 7), (true, 8), (false, 9), (true, 10)] (by kernel_rfl) (by kernel_rfl) (by intro c a d v w h; cases d <;> exact h) ?_
  intro W1 K1 C1
  refine wpS_load_mid rfl rfl 37 (.tmp 14) rfl g 0 rfl cy _ (fun x hx => Keep.rng hx RG.out NB.out) Tryz.underlying37 rfl (by rw [SZC.out]; kernel_rfl) ?_
  refine wpS_load_mid rfl rfl 56 (.tmp 13) rfl gs 0 rfl se _ (fun x hx => Keep.rng hx RGE.out NBE.out) Tryz.underlying56 rfl (by rw [SZE.out]; kernel_rfl) ?_
  (refine wpS_firm rfl (fun K hK => ?_); simp only [Keep]; go_simp; refine hK _ ?_; clear hK K)
  refine wpS_chain rfl ?_
  go_wp2_with (go_at_call 20; go_loud (refine (ISA.out _).mono ?_; rintro e w5 ⟨rfl, hb⟩; have B5 := Lib.hid (gr_tr C1.out hb); have K5 := Lib.hid (K1.out.chgK (Chg.of_below (B := fun k => k = w.heap.size + 2) hb) (fun k hk => .inl hk)); clear hb))
  refine ⟨K5.out, ?_⟩
  (refine wpS_firm rfl (fun K hK => ?_); simp only [Keep]; go_simp; refine hK _ ?_; clear hK K)
  (refine wpS_firm rfl (fun K hK => ?_); simp only [Keep]; go_simp; refine hK _ ?_; clear hK K)
  refine wpS_load_mid rfl rfl 37 (.tmp 14) rfl g 0 rfl cy _ (fun x hx => Keep.rng hx RG.out NB.out) Tryz.underlying37 rfl (by rw [SZC.out]; kernel_rfl) ?_
  refine wpS_chain rfl ?_
  go_wp2_with (go_at_call 27; go_loud (refine (AGQ.out _ _ _ _ (SL4.out.below B5.out) (PR4.out.below B5.out)).mono ?_; rintro e w6 ⟨rfl, hb⟩; have B6 := Lib.hid (gr_tr B5.out hb); have K6 := Lib.hid (K5.out.chgK (Chg.of_below (B := fun k => k = w.heap.size + 2) hb) (fun k hk => .inl hk)); clear hb))
  refine ⟨K6.out, ?_⟩
  (refine wpS_firm rfl (fun K hK => ?_); simp only [Keep]; go_simp; refine hK _ ?_; clear hK K)
  have RS6 := Lib.hid (blk_below RS4.out B6.out)
  refine wpS_chain rfl ?_
  refine wpList_store_rowC rfl 37 (.tmp 6) (.tmp 86) rfl (w.heap.size + 2) cy.toArray rfl rfl 37 _ RS6.out (by rw [SZY.out]; kernel_rfl) (by rw [SZY.out]; rfl) ONY.out ?_
  intro w9 h9 hc
  have X9 := Lib.hid h9; have C9 := Lib.hid hc
  have K9 := Lib.hid (K6.out.chgK hc (fun k hk => .inl hk))
  clear h9 hc
  go_wp2
  refine ⟨K9.out, ?_⟩
  repeat (refine wpS_firm rfl (fun K hK => ?_); simp only [Keep]; go_simp; refine hK _ ?_; clear hK K)
  unfold wpS
  go_wp2
  refine bodyPost_ret (results_row_tmp rfl _ _ (w.heap.size + 2) 37 _ (0, 0) _ rfl X9.out Tryz.underlying37 rfl (by rw [SZY.out]; kernel_rfl)) rfl ?_
  show DoPost p (actS x c d) w _ _
  rw [HS.out]
  have CHG := newer_chg (CH4.out.trans (Chg.of_below B6.out)) (show w.heap.size ≤ w.heap.size + 2 by omega) C9.out
  exact ⟨_, _, lv2, dv2, by rw [HCY.out]; rfl, (SL4.out.below B6.out).set RS6.out (by decide) (by decide) (by decide) C9.out, (PR4.out.below B6.out).set RS6.out (by decide) (by decide) C9.out, CHG⟩
end Go.Proofs.YtabfmhlhdebcpaaGreatDoor
namespace Go.Proofs.YtabfmhlhdebcpaaGreatDoor
open Go.RowKit Go.Shelf Fw
set_option linter.unusedVariables false
set_option linter.unusedSimpArgs false
attribute [local go_sem] Oper.semAt_some
theorem cells_rc {c : Cl} : c.cells.toArray = #[.int .i64 c.kind, .int .u32 ((c.off.toNat : Nat) : Int), c.data, .int .i64 c.slot, .int .i64 c.act, .string (strOf c.rev)] := rfl
theorem own_someB {w : World} {base n size : Nat} {e : TypeId} {a : Option Addr} {m c : Nat} {xs : List Value} (h : w.ownsRow base e size (.slice a m c) n xs) (hn : 0 < n) : ∃ g, a = some ⟨g, 0, none⟩ := by
  obtain ⟨-, h | ⟨g, cap, cur, hv, -⟩⟩ := h
  · omega
  · injection hv with h1; exact ⟨g, h1⟩
/-- A change in a row of bytes that is one's own leaves the pieces. -/
theorem Fw.PcsAt.offOwn {T : TypeId} {w0 w1 w3 w4 : World} {ps0 ps : List Pc} {lv0 lv u : Value} {dvs0 dvs xs : List Value} {n base : Nat} (h0 : PcsAt T w0 ps0 lv0 dvs0) (hT : 5 ≠ T) (hu : w3.ownsRow base 5 1 u n xs) (hb : w0.heap.size ≤ base) (hlt : ∀ k, u.ownBlock = some k → k < w1.heap.size) (hn : NewD w1 dvs0 dvs) (h : PcsAt T w3 ps lv dvs) (hc : Chg (fun b => u.ownBlock = some b) w3 w4) : PcsAt T w4 ps lv dvs := by
  refine h.chg hc (fun k hk hB => ?_) (fun i dv hi k hk hB => ?_)
  · obtain ⟨-, h2 | ⟨g, cap, cur, rfl, -, hh, -⟩⟩ := hu
    · rw [h2.1] at hB; cases hB
    · cases hB; exact own_apartB2 h.own hh hT hk
  · have hB : u.ownBlock = some k := hB
    rcases hn dv (List.mem_of_getElem? hi) with h1 | h1
    · obtain ⟨j, hj⟩ := List.mem_iff_getElem?.1 h1
      have hl : j < ps0.length := by rw [← h0.len]; exact (List.getElem?_eq_some_iff.1 hj).1
      have h2 := ((h0.el j ps0[j] dv (List.getElem?_eq_getElem hl) hj).lt k hk).2
      have h3 := (hu.lt k hB).1
      omega
    · have h2 := h1 k hk
      have h3 := hlt k hB
      omega
theorem by8_setD (m : Bs) (k : Nat) (x : BitVec 8) : by8 (m.set k x) = (by8 m).set k (.int .u8 (uv x)) := by simp [by8, List.map_set]
theorem newer_chgB {B C : Nat → Prop} {w a b : World} (h : Chg B w a) (hq : ∀ k, C k → w.heap.size ≤ k) (hc : Chg C a b) : Chg B w b :=
  ⟨hc.os.trans h.os, hc.tape.trans h.tape, hc.output.trans h.output, Nat.le_trans h.size hc.size, fun k hk hn => (hc.block k (Nat.lt_of_lt_of_le hk h.size) (fun e => by have := hq k e; omega)).trans (h.block k hk hn)⟩
set_option maxRecDepth 20000 in
set_option maxHeartbeats 6400000 in
theorem do_load0 (p : Nat) (x : St) (lv lvr : Value) (dvs dvr : List Value) (c : Cl) (d : Bs) (w : World) (hd : SlAt w p x lv dvs) (hr : PcsAt 67 w x.ps lvr dvr) (wb : World) (hv : BytesV wb c.data d) (hpb : wb.heap.size ≤ p) (hbb : Below wb.heap.size wb w) (hl2 : d.length ≤ 200) (hk : c.kind = 0) :
    Calls Tryz.prog 15 #[.pointer (some ⟨p, 0, none⟩), .agg (x.cells lvr).toArray, .agg c.cells.toArray] w (DoPost p (actS x c d) w) := by
  have HS := Lib.hid (show actS x c d = dlS x c.off.toNat d by unfold actS; rw [if_pos (by omega)])
  obtain ⟨W, hW⟩ : ∃ W, W = ((w.alloc (.cells (x.cells lvr).toArray 37)).alloc (.cells c.cells.toArray 44)).alloc (.cells #[.int .i64 0, .bool false, .string ⟨#[]⟩, .int .i64 0, .int .i64 0, .int .i64 0, .string ⟨#[]⟩, .string ⟨#[]⟩, .string ⟨#[]⟩, .string ⟨#[]⟩, .string ⟨#[]⟩, .string ⟨#[]⟩, .string ⟨#[]⟩, .slice none 0 0] 37) := ⟨_, rfl⟩
  have A0 := Lib.hid (show DoAt w W x lvr c by rw [hW]; exact DoAt.new w x lvr c hd.ok.len (own_one' hr.own))
  have PL := Lib.hid (show p < w.heap.size from (Array.getElem?_eq_some_iff.1 hd.blk).1)
  have DD := Lib.hid hd; have RR := Lib.hid hr
  have hA : c.off.toNat < 4294967296 := c.off.isLt
  have OWN := Lib.hid (fun W h => Own_any c.data d W h (by omega))
  have DLD := Lib.hid (fun W' v h hv => Download_at p x lv dvs c.off.toNat v d W' h hv hA (by omega))
  have RDL := Lib.hid (fun W' (h : PcsAt 67 W' x.ps lvr dvr) hv => rDownload_at x lvr dvr c.off.toNat c.data d W' hd.ok h hv hA (by omega))
  have AGR := Lib.hid (fun W' lv1 dv1 lv2 dv2 (h : SlAt W' p (dlS x c.off.toNat d) lv1 dv1) h2 => agrees_at p (dlS x c.off.toNat d) lv1 lv2 dv1 dv2 W' h h2)
  have ISA := Lib.hid (fun w => is_at (dlE x c.off.toNat d) (dlE x c.off.toNat d) true w (dlE_kn x c.off.toNat d) (by simp))
  have ck : W.cell? ⟨w.heap.size + 1, 0, none⟩ = some (.int .i64 c.kind) := (cell_of_row _ _ 0 _ _ _ A0.out.a).trans rfl
  rw [hk] at ck
  have c1 : W.cell? ⟨w.heap.size + 1, 1, none⟩ = some (.int .u32 ((c.off.toNat : Nat) : Int)) := (cell_of_row _ _ 1 _ _ _ A0.out.a).trans rfl
  have c2 : W.cell? ⟨w.heap.size + 1, 2, none⟩ = some c.data := (cell_of_row _ _ 2 _ _ _ A0.out.a).trans rfl
  obtain ⟨cs, hcs⟩ : ∃ z, (x.cells lvr).toArray = z := ⟨_, rfl⟩
  obtain ⟨cc, hcc⟩ : ∃ z, c.cells.toArray = z := ⟨_, rfl⟩
  rw [hcs, hcc] at hW ⊢
  have HW := Lib.hid hW
  have AR := Lib.hid A0.out.a
  have HCS := Lib.hid hcs
  have SZX := Lib.hid (show cs.size = 14 by rw [← hcs]; exact St.cells_len7 x lvr A0.out.len)
  obtain ⟨n, hn⟩ : ∃ z, d.length = z := ⟨_, rfl⟩
  have HN := Lib.hid hn
  rw [hn] at hl2
  have V := Lib.hid hv; have BB := Lib.hid hbb; have PB := Lib.hid hpb
  obtain ⟨y, hy⟩ : ∃ z, dlS x c.off.toNat d = z := ⟨_, rfl⟩
  obtain ⟨E, hE⟩ : ∃ z, dlE x c.off.toNat d = z := ⟨_, rfl⟩
  obtain ⟨se, hse⟩ : ∃ z, stL E = z := ⟨_, rfl⟩
  have SZE := Lib.hid (show se.length = 4 by rw [← hse]; rfl)
  have SZEA := Lib.hid (show se.toArray.size = 4 by rw [← hse]; rfl)
  have ONE := Lib.hid (show se.toArray.all (·.oneCell') = true by rw [← hse]; exact stC_one E)
  obtain ⟨EI, hEI⟩ : ∃ z, (E : Int) = z := ⟨_, rfl⟩
  rw [hy] at AGR HS
  rw [hE] at ISA
  replace DLD := Lib.hid (show ∀ W' v (h : SlAt W' p x lv dvs) (hv : BytesV W' v d), Calls Tryz.prog 21 #[.pointer (some ⟨p, 0, none⟩), .int .u32 ((c.off.toNat : Nat) : Int), v] W' (fun e w' => ∃ lv' dvs', e = .returned (.agg se.toArray) ∧ SlAt w' p y lv' dvs' ∧ NewD W' dvs dvs' ∧ Chg (fun k => k = p) W' w') from by rw [← hse, ← hE, ← hy]; exact DLD.out)
  replace RDL := Lib.hid (show ∀ W' (h : PcsAt 67 W' x.ps lvr dvr) (hv : BytesV W' c.data d), Calls Tryz.prog 30 #[.agg cs, .int .u32 ((c.off.toNat : Nat) : Int), c.data] W' (fun e w' => ∃ lv' dvs', e = .returned (.tuple #[.agg (y.cells lv').toArray, .int .i64 EI]) ∧ PcsAt 67 w' y.ps lv' dvs' ∧ NewD W' dvr dvs' ∧ Below W'.heap.size W' w') from by rw [← hcs, ← hEI, ← hE, ← hy]; exact RDL.out)
  replace ISA := Lib.hid (show ∀ w, Calls Tryz.prog 20 #[.agg se.toArray, .int .i64 EI] w (fun e w' => e = .returned (.bool true) ∧ Below w.heap.size w w') from by rw [← hse, ← hEI]; exact ISA.out)
  obtain ⟨o, ho⟩ : ∃ z, ((c.off.toNat : Nat) : Int) = z := ⟨_, rfl⟩
  obtain ⟨vd, hvd⟩ : ∃ z, c.data = z := ⟨_, rfl⟩
  rw [ho, hvd] at RDL
  rw [ho] at DLD c1
  rw [hvd] at c2 OWN V
  have HOF := Lib.hid ho
  have HVD := Lib.hid hvd
  rw [hn] at OWN
  clear hy hE hse hEI hW hd hr hcs hcc hk ho hvd hA hv hn hbb hpb
  go_enter Tryz.func15, Tryz.ntmps15
  go_upto_region 1 with fail
  rw [← HW.out]
  go_upto_region 5 with (go_at_call 16; go_loud (refine (OWN.out _ (V.out.below (gr_tr BB.out A0.out.bel))).mono ?_; rintro e w0 ⟨u, rfl, ho, hb⟩; obtain ⟨ad, cd, rfl⟩ := own_shape ho; have OU := Lib.hid ho; have B0 := Lib.hid hb; have OLT := Lib.hid (fun k hk => (ho.lt k hk).2); clear ho hb))
  have D0 := Lib.hid (gr_tr A0.out.bel B0.out)
  have VU := Lib.hid (show BytesV w0 (.slice ad n cd) d from BytesV.of_own (by rw [HN.out]; exact OU.out))
  have AR0 := Lib.hid (blk_below AR.out B0.out)
  have d1 : w0.cell? ⟨w.heap.size + 1, 1, none⟩ = some (.int .u32 o) := (cell_of_row _ _ 1 _ _ _ AR0.out).trans (by rw [← HOF.out]; rfl)
  clear c1 c2 ck
  go_upto_region 6 with (first
    | (go_at_call 21; go_loud (refine (DLD.out _ _ (DD.out.below D0.out) VU.out).mono ?_; rintro e w1 ⟨lv1, dv1, rfl, hs, hnd, hc⟩; have SL1 := Lib.hid hs; have CH1 := Lib.hid hc; have ND1 := Lib.hid hnd; clear hs hc hnd))
    | (refine wpList_store_new rfl 56 (.tmp 9) (.tmp 37) rfl se.toArray 56 _ rfl rfl (by rw [SZEA.out]; kernel_rfl) (by rw [SZEA.out]; rfl) ONE.out ?_; intro w2 hh hw; have T2 := Lib.hid hh; have B2 := Lib.hid hw; clear hh hw))
  have M0 := Lib.hid (show w0.heap[w.heap.size]? = some (.cells cs 37 (0, 0)) by rw [← HCS.out]; exact blk_below A0.out.m B0.out)
  have RS0 := Lib.hid (blk_below A0.out.r B0.out)
  have M2 := Lib.hid (blk_below (CH1.out.blk M0.out (fun e => by have := PL.out; have e' : w.heap.size = p := e; omega)) B2.out)
  have RS2 := Lib.hid (blk_below (CH1.out.blk RS0.out (fun e => by have := PL.out; have e' : w.heap.size + 2 = p := e; omega)) B2.out)
  have AR2 := Lib.hid (blk_below (CH1.out.blk AR0.out (fun e => by have := PL.out; have e' : w.heap.size + 1 = p := e; omega)) B2.out)
  have WL := Lib.hid (show w.heap.size + 2 < W.heap.size from (Array.getElem?_eq_some_iff.1 A0.out.r).1)
  have OU2 := Lib.hid (own_below (own_chg OU.out CH1.out (fun k hk e => by have := (OU.out.lt k hk).1; have := PL.out; have := WL.out; have e' : k = p := e; omega)) B2.out)
  have RR2 := Lib.hid (((RR.out.below D0.out).slot (DD.out.below D0.out) (by decide) CH1.out).below B2.out)
  have CH2 := Lib.hid (((Chg.of_below (B := fun k => k = p) D0.out).trans CH1.out).trans (Chg.of_below B2.out))
  have V2 := Lib.hid (show BytesV w2 vd d from V.out.below (BB.out.trans (CH2.out.below (fun k e => by have e' : k = p := e; have := PB.out; omega) BB.out.size)))
  have d1 : w2.cell? ⟨w.heap.size + 1, 1, none⟩ = some (.int .u32 o) := (cell_of_row _ _ 1 _ _ _ AR2.out).trans (by rw [← HOF.out]; rfl)
  have d2 : w2.cell? ⟨w.heap.size + 1, 2, none⟩ = some vd := (cell_of_row _ _ 2 _ _ _ AR2.out).trans (by rw [← HVD.out]; rfl)
  obtain ⟨gs, hgs⟩ : ∃ z, w1.heap.size = z := ⟨_, rfl⟩
  have HGS := Lib.hid (show w.heap.size + 2 < gs by rw [← hgs]; exact Nat.lt_of_lt_of_le (Array.getElem?_eq_some_iff.1 RS0.out).1 CH1.out.size)
  rw [hgs] at T2 ⊢
  have SL2 := Lib.hid (SL1.out.below B2.out)
  have L7 := Lib.hid SL1.out.ok.len
  clear hgs AR AR2 AR0 DLD SL1 B2 OWN A0
  go_upto_region 7 with (first
    | (refine wpList_load_row rfl 37 (.tmp 4) rfl w.heap.size rfl 37 cs (0, 0) _ M2.out Tryz.underlying37 rfl (by rw [SZX.out]; kernel_rfl) ?_)
    | (go_at_call 30; go_loud (refine (RDL.out _ RR2.out V2.out).mono ?_; rintro e w3 ⟨lv2, dv2, rfl, h2, hnd, hb⟩; have PR3 := Lib.hid h2; have ND3 := Lib.hid hnd; have B3 := Lib.hid hb; have SZY := Lib.hid (St.cells_len7 y lv2 L7.out); have ONY := Lib.hid (St.cells_one y lv2 (own_one' h2.own)); clear h2 hb hnd; obtain ⟨cy, hcy⟩ : ∃ z, y.cells lv2 = z := ⟨_, rfl⟩; have HCY := Lib.hid hcy; rw [hcy] at SZY ONY ⊢; clear hcy))
    | (refine wpList_store_new rfl 37 (.tmp 10) (.tmp 45) rfl cy.toArray 37 _ rfl rfl (by rw [SZY.out]; kernel_rfl) (by rw [SZY.out]; rfl) ONY.out ?_; intro w4 hh hw; have Y4 := Lib.hid hh; have B34 := Lib.hid hw; have B4 := Lib.hid (gr_tr B3.out hw); clear hh hw))
  obtain ⟨g, hg⟩ : ∃ z, w3.heap.size = z := ⟨_, rfl⟩
  have GQ := Lib.hid (show w.heap.size + 2 < g by rw [← hg]; exact Nat.lt_of_lt_of_le (Array.getElem?_eq_some_iff.1 RS2.out).1 B3.out.size)
  rw [hg] at Y4 ⊢
  have SZC := Lib.hid (show cy.length = 14 by have := SZY.out; simpa using this)
  have NB := Lib.hid (show ¬ g = w.heap.size + 2 by have := GQ.out; omega)
  have NBE := Lib.hid (show ¬ gs = w.heap.size + 2 by have := HGS.out; omega)
  have OU4 := Lib.hid (own_below OU2.out B4.out)
  have CH3 := Lib.hid (CH2.out.trans (Chg.of_below B4.out))
  clear hg d1 d2 V2 VU M2 RDL
  go_wp2
  go_loopw [12] (fun i wr => ∃ (k : Nat) (l : Bs), k ≤ n ∧ i = .int .i64 k ∧ l.length = n ∧ Hid (wr.ownsRow W.heap.size 5 1 (.slice ad n cd) n (by8 l)) ∧ Hid (Chg (fun b => (Value.slice ad n cd).ownBlock = some b) w4 wr)) (fun i _ => n - (intOf i).toNat)
  case atStart => exact ⟨0, d, by omega, rfl, HN.out, OU4, Lib.hid (Chg.refl _ _)⟩
  case round =>
    obtain ⟨k, l, hk, rfl, hll, OR, CR⟩ := hrel
    by_cases hlt : k < n
    · obtain ⟨gq, hgq⟩ := own_someB OR.out (by omega)
      subst hgq
      obtain ⟨z, hz⟩ : ∃ z, l[k]? = some z := ⟨_, List.getElem?_eq_getElem (by omega)⟩
      have gx : wr.cell? ⟨gq, k, none⟩ = some (.int .u8 (uv z)) := by
        rw [World.ownsRow.cellAt OR.out k (by omega), by8_get, hz]; rfl
      have fx := World.ownsRow.frozenAt OR.out k
      clear hz
      go_wp2
      go_roundw
      case rel => exact ⟨k + 1, l.set k (z + 1#8), by omega, by go_num, by rw [List.length_set]; exact hll, Lib.hid (by rw [by8_setD]; exact (World.ownsRow.stored OR.out k _).1), Lib.hid (CR.out.trans (Chg.setCell (B := fun b => (Value.slice (some ⟨gq, 0, none⟩) n cd).ownBlock = some b) (p := ⟨gq, k, none⟩) _ rfl _))⟩
      case measure => simp [intOf]; omega
    · obtain rfl : k = n := by omega
      have Yr := Lib.hid (CR.out.blk Y4.out (own_apartB2 OU4.out Y4.out (by decide)))
      have Tr := Lib.hid (CR.out.blk (blk_below T2.out B4.out) (own_apartB2 OU4.out (blk_below T2.out B4.out) (by decide)))
      have RS4 := Lib.hid (CR.out.blk (blk_below RS2.out B4.out) (own_apartB2 OU4.out (blk_below RS2.out B4.out) (by decide)))
      have S4 := Lib.hid (SL2.out.below B4.out)
      have SL4 : Hid (SlAt wr p y lv1 dv1) := Lib.hid ⟨CR.out.blk S4.out.blk (own_apartB2 OU4.out S4.out.blk (by decide)), Fw.PcsAt.offOwn (w1 := w0) DD.out.pcs (by decide) OU4.out (by have := WL.out; omega) OLT.out ND1.out S4.out.pcs CR.out, S4.out.ok⟩
      have PR4 := Lib.hid (Fw.PcsAt.offOwn (w1 := w2) RR.out (by decide) OU4.out (by have := WL.out; omega) (fun k hk => (OU2.out.lt k hk).2) ND3.out (PR3.out.below B34.out) CR.out)
      have CH4 := Lib.hid (newer_chgB CH3.out (fun k hk => by have := (OU4.out.lt k hk).1; have := WL.out; omega) CR.out)
      have RG := Lib.hid (show wr.rangeAt g 0 cy from fun j v hj => by
        rw [Nat.zero_add]
        exact (cell_of_row _ _ j _ _ _ Yr.out).trans (by rw [List.getElem?_toArray, hj]))
      have RGE := Lib.hid (show wr.rangeAt gs 0 se from fun j v hj => by
        rw [Nat.zero_add]
        exact (cell_of_row _ _ j _ _ _ Tr.out).trans (by rw [List.getElem?_toArray, hj]))
      clear hll hlt hk OR CR
      go_upto_region 11 with fail
      have AGQ := Lib.hid (show ∀ W' lv1 dv1 dv2, SlAt W' p y lv1 dv1 → PcsAt 67 W' y.ps lv2 dv2 → Calls Tryz.prog 27 #[.pointer (some ⟨p, 0, none⟩), .agg cy.toArray] W' (fun e w' => e = .returned (.bool true) ∧ Below W'.heap.size W' w') from by rw [← HCY.out]; exact fun W' lv1 dv1 dv2 h h2 => AGR.out W' lv1 dv1 lv2 dv2 h h2)
      clear AGR
      refine wp_calm ?_
      refine wp_region_planW (fun k => k = w.heap.size + 2) [(true, 0), (true, 1), (true, 2), (false, 3), (true, 4), (true, 5), (true, 6), (false, 7), (true, 8), (false, 9), (true, 10)] (by kernel_rfl) (by kernel_rfl) (by intro c a d v w h; cases d <;> exact h) ?_
      intro W1 K1 C1
      refine wpS_load_mid rfl rfl 37 (.tmp 10) rfl g 0 rfl cy _ (fun x hx => Keep.rng hx RG.out NB.out) Tryz.underlying37 rfl (by rw [SZC.out]; kernel_rfl) ?_
      refine wpS_load_mid rfl rfl 56 (.tmp 9) rfl gs 0 rfl se _ (fun x hx => Keep.rng hx RGE.out NBE.out) Tryz.underlying56 rfl (by rw [SZE.out]; kernel_rfl) ?_
      (refine wpS_firm rfl (fun K hK => ?_); simp only [Keep]; go_simp; refine hK _ ?_; clear hK K)
      refine wpS_chain rfl ?_
      go_wp2_with (go_at_call 20; go_loud (refine (ISA.out _).mono ?_; rintro e w5 ⟨rfl, hb⟩; have B5 := Lib.hid (gr_tr C1.out hb); have K5 := Lib.hid (K1.out.chgK (Chg.of_below (B := fun k => k = w.heap.size + 2) hb) (fun k hk => .inl hk)); clear hb))
      refine ⟨K5.out, ?_⟩
      (refine wpS_firm rfl (fun K hK => ?_); simp only [Keep]; go_simp; refine hK _ ?_; clear hK K)
      (refine wpS_firm rfl (fun K hK => ?_); simp only [Keep]; go_simp; refine hK _ ?_; clear hK K)
      refine wpS_load_mid rfl rfl 37 (.tmp 10) rfl g 0 rfl cy _ (fun x hx => Keep.rng hx RG.out NB.out) Tryz.underlying37 rfl (by rw [SZC.out]; kernel_rfl) ?_
      refine wpS_chain rfl ?_
      go_wp2_with (go_at_call 27; go_loud (refine (AGQ.out _ _ _ _ (SL4.out.below B5.out) (PR4.out.below B5.out)).mono ?_; rintro e w6 ⟨rfl, hb⟩; have B6 := Lib.hid (gr_tr B5.out hb); have K6 := Lib.hid (K5.out.chgK (Chg.of_below (B := fun k => k = w.heap.size + 2) hb) (fun k hk => .inl hk)); clear hb))
      refine ⟨K6.out, ?_⟩
      (refine wpS_firm rfl (fun K hK => ?_); simp only [Keep]; go_simp; refine hK _ ?_; clear hK K)
      have RS6 := Lib.hid (blk_below RS4.out B6.out)
      refine wpS_chain rfl ?_
      refine wpList_store_rowC rfl 37 (.tmp 6) (.tmp 59) rfl (w.heap.size + 2) cy.toArray rfl rfl 37 _ RS6.out (by rw [SZY.out]; kernel_rfl) (by rw [SZY.out]; rfl) ONY.out ?_
      intro w9 h9 hc
      have X9 := Lib.hid h9; have C9 := Lib.hid hc
      have K9 := Lib.hid (K6.out.chgK hc (fun k hk => .inl hk))
      clear h9 hc
      go_wp2
      refine ⟨K9.out, ?_⟩
      repeat (refine wpS_firm rfl (fun K hK => ?_); simp only [Keep]; go_simp; refine hK _ ?_; clear hK K)
      unfold wpS
      go_wp2
      refine bodyPost_ret (results_row_tmp rfl _ _ (w.heap.size + 2) 37 _ (0, 0) _ rfl X9.out Tryz.underlying37 rfl (by rw [SZY.out]; kernel_rfl)) rfl ?_
      show DoPost p (actS x c d) w _ _
      rw [HS.out]
      have CHG := newer_chg (CH4.out.trans (Chg.of_below B6.out)) (show w.heap.size ≤ w.heap.size + 2 by omega) C9.out
      exact ⟨_, _, lv2, dv2, by rw [HCY.out]; rfl, (SL4.out.below B6.out).set RS6.out (by decide) (by decide) (by decide) C9.out, (PR4.out.below B6.out).set RS6.out (by decide) (by decide) C9.out, CHG⟩
set_option maxRecDepth 20000 in
set_option maxHeartbeats 6400000 in
theorem do_load1 (p : Nat) (x : St) (lv lvr : Value) (dvs dvr : List Value) (c : Cl) (d : Bs) (w : World) (hd : SlAt w p x lv dvs) (hr : PcsAt 67 w x.ps lvr dvr) (wb : World) (hv : BytesV wb c.data d) (hpb : wb.heap.size ≤ p) (hbb : Below wb.heap.size wb w) (hl2 : d.length ≤ 200) (hk : c.kind = 1) :
    Calls Tryz.prog 15 #[.pointer (some ⟨p, 0, none⟩), .agg (x.cells lvr).toArray, .agg c.cells.toArray] w (DoPost p (actS x c d) w) := by
  have HS := Lib.hid (show actS x c d = dlS x c.off.toNat d by unfold actS; rw [if_pos (by omega)])
  obtain ⟨W, hW⟩ : ∃ W, W = ((w.alloc (.cells (x.cells lvr).toArray 37)).alloc (.cells c.cells.toArray 44)).alloc (.cells #[.int .i64 0, .bool false, .string ⟨#[]⟩, .int .i64 0, .int .i64 0, .int .i64 0, .string ⟨#[]⟩, .string ⟨#[]⟩, .string ⟨#[]⟩, .string ⟨#[]⟩, .string ⟨#[]⟩, .string ⟨#[]⟩, .string ⟨#[]⟩, .slice none 0 0] 37) := ⟨_, rfl⟩
  have A0 := Lib.hid (show DoAt w W x lvr c by rw [hW]; exact DoAt.new w x lvr c hd.ok.len (own_one' hr.own))
  have PL := Lib.hid (show p < w.heap.size from (Array.getElem?_eq_some_iff.1 hd.blk).1)
  have DD := Lib.hid hd; have RR := Lib.hid hr
  have hA : c.off.toNat < 4294967296 := c.off.isLt
  have OWN := Lib.hid (fun W h => Own_any c.data d W h (by omega))
  have DLD := Lib.hid (fun W' v h hv => Download_at p x lv dvs c.off.toNat v d W' h hv hA (by omega))
  have RDL := Lib.hid (fun W' (h : PcsAt 67 W' x.ps lvr dvr) hv => rDownload_at x lvr dvr c.off.toNat c.data d W' hd.ok h hv hA (by omega))
  have AGR := Lib.hid (fun W' lv1 dv1 lv2 dv2 (h : SlAt W' p (dlS x c.off.toNat d) lv1 dv1) h2 => agrees_at p (dlS x c.off.toNat d) lv1 lv2 dv1 dv2 W' h h2)
  have ISA := Lib.hid (fun w => is_at (dlE x c.off.toNat d) (dlE x c.off.toNat d) true w (dlE_kn x c.off.toNat d) (by simp))
  have ck : W.cell? ⟨w.heap.size + 1, 0, none⟩ = some (.int .i64 c.kind) := (cell_of_row _ _ 0 _ _ _ A0.out.a).trans rfl
  rw [hk] at ck
  have c1 : W.cell? ⟨w.heap.size + 1, 1, none⟩ = some (.int .u32 ((c.off.toNat : Nat) : Int)) := (cell_of_row _ _ 1 _ _ _ A0.out.a).trans rfl
  have c2 : W.cell? ⟨w.heap.size + 1, 2, none⟩ = some c.data := (cell_of_row _ _ 2 _ _ _ A0.out.a).trans rfl
  obtain ⟨cs, hcs⟩ : ∃ z, (x.cells lvr).toArray = z := ⟨_, rfl⟩
  obtain ⟨cc, hcc⟩ : ∃ z, c.cells.toArray = z := ⟨_, rfl⟩
  rw [hcs, hcc] at hW ⊢
  have HW := Lib.hid hW
  have AR := Lib.hid A0.out.a
  have HCS := Lib.hid hcs
  have SZX := Lib.hid (show cs.size = 14 by rw [← hcs]; exact St.cells_len7 x lvr A0.out.len)
  obtain ⟨n, hn⟩ : ∃ z, d.length = z := ⟨_, rfl⟩
  have HN := Lib.hid hn
  rw [hn] at hl2
  have V := Lib.hid hv; have BB := Lib.hid hbb; have PB := Lib.hid hpb
  obtain ⟨y, hy⟩ : ∃ z, dlS x c.off.toNat d = z := ⟨_, rfl⟩
  obtain ⟨E, hE⟩ : ∃ z, dlE x c.off.toNat d = z := ⟨_, rfl⟩
  obtain ⟨se, hse⟩ : ∃ z, stL E = z := ⟨_, rfl⟩
  have SZE := Lib.hid (show se.length = 4 by rw [← hse]; rfl)
  have SZEA := Lib.hid (show se.toArray.size = 4 by rw [← hse]; rfl)
  have ONE := Lib.hid (show se.toArray.all (·.oneCell') = true by rw [← hse]; exact stC_one E)
  obtain ⟨EI, hEI⟩ : ∃ z, (E : Int) = z := ⟨_, rfl⟩
  rw [hy] at AGR HS
  rw [hE] at ISA
  replace DLD := Lib.hid (show ∀ W' v (h : SlAt W' p x lv dvs) (hv : BytesV W' v d), Calls Tryz.prog 21 #[.pointer (some ⟨p, 0, none⟩), .int .u32 ((c.off.toNat : Nat) : Int), v] W' (fun e w' => ∃ lv' dvs', e = .returned (.agg se.toArray) ∧ SlAt w' p y lv' dvs' ∧ NewD W' dvs dvs' ∧ Chg (fun k => k = p) W' w') from by rw [← hse, ← hE, ← hy]; exact DLD.out)
  replace RDL := Lib.hid (show ∀ W' (h : PcsAt 67 W' x.ps lvr dvr) (hv : BytesV W' c.data d), Calls Tryz.prog 30 #[.agg cs, .int .u32 ((c.off.toNat : Nat) : Int), c.data] W' (fun e w' => ∃ lv' dvs', e = .returned (.tuple #[.agg (y.cells lv').toArray, .int .i64 EI]) ∧ PcsAt 67 w' y.ps lv' dvs' ∧ NewD W' dvr dvs' ∧ Below W'.heap.size W' w') from by rw [← hcs, ← hEI, ← hE, ← hy]; exact RDL.out)
  replace ISA := Lib.hid (show ∀ w, Calls Tryz.prog 20 #[.agg se.toArray, .int .i64 EI] w (fun e w' => e = .returned (.bool true) ∧ Below w.heap.size w w') from by rw [← hse, ← hEI]; exact ISA.out)
  obtain ⟨o, ho⟩ : ∃ z, ((c.off.toNat : Nat) : Int) = z := ⟨_, rfl⟩
  obtain ⟨vd, hvd⟩ : ∃ z, c.data = z := ⟨_, rfl⟩
  rw [ho, hvd] at RDL
  rw [ho] at DLD c1
  rw [hvd] at c2 OWN V
  have HOF := Lib.hid ho
  have HVD := Lib.hid hvd
  rw [hn] at OWN
  clear hy hE hse hEI hW hd hr hcs hcc hk ho hvd hA hv hn hbb hpb
  go_enter Tryz.func15, Tryz.ntmps15
  go_upto_region 1 with fail
  rw [← HW.out]
  go_upto_region 5 with (go_at_call 16; go_loud (refine (OWN.out _ (V.out.below (gr_tr BB.out A0.out.bel))).mono ?_; rintro e w0 ⟨u, rfl, ho, hb⟩; obtain ⟨ad, cd, rfl⟩ := own_shape ho; have OU := Lib.hid ho; have B0 := Lib.hid hb; have OLT := Lib.hid (fun k hk => (ho.lt k hk).2); clear ho hb))
  have D0 := Lib.hid (gr_tr A0.out.bel B0.out)
  have VU := Lib.hid (show BytesV w0 (.slice ad n cd) d from BytesV.of_own (by rw [HN.out]; exact OU.out))
  have AR0 := Lib.hid (blk_below AR.out B0.out)
  have d1 : w0.cell? ⟨w.heap.size + 1, 1, none⟩ = some (.int .u32 o) := (cell_of_row _ _ 1 _ _ _ AR0.out).trans (by rw [← HOF.out]; rfl)
  clear c1 c2 ck
  go_upto_region 6 with (first
    | (go_at_call 21; go_loud (refine (DLD.out _ _ (DD.out.below D0.out) VU.out).mono ?_; rintro e w1 ⟨lv1, dv1, rfl, hs, hnd, hc⟩; have SL1 := Lib.hid hs; have CH1 := Lib.hid hc; have ND1 := Lib.hid hnd; clear hs hc hnd))
    | (refine wpList_store_new rfl 56 (.tmp 9) (.tmp 37) rfl se.toArray 56 _ rfl rfl (by rw [SZEA.out]; kernel_rfl) (by rw [SZEA.out]; rfl) ONE.out ?_; intro w2 hh hw; have T2 := Lib.hid hh; have B2 := Lib.hid hw; clear hh hw))
  have M0 := Lib.hid (show w0.heap[w.heap.size]? = some (.cells cs 37 (0, 0)) by rw [← HCS.out]; exact blk_below A0.out.m B0.out)
  have RS0 := Lib.hid (blk_below A0.out.r B0.out)
  have M2 := Lib.hid (blk_below (CH1.out.blk M0.out (fun e => by have := PL.out; have e' : w.heap.size = p := e; omega)) B2.out)
  have RS2 := Lib.hid (blk_below (CH1.out.blk RS0.out (fun e => by have := PL.out; have e' : w.heap.size + 2 = p := e; omega)) B2.out)
  have AR2 := Lib.hid (blk_below (CH1.out.blk AR0.out (fun e => by have := PL.out; have e' : w.heap.size + 1 = p := e; omega)) B2.out)
  have WL := Lib.hid (show w.heap.size + 2 < W.heap.size from (Array.getElem?_eq_some_iff.1 A0.out.r).1)
  have OU2 := Lib.hid (own_below (own_chg OU.out CH1.out (fun k hk e => by have := (OU.out.lt k hk).1; have := PL.out; have := WL.out; have e' : k = p := e; omega)) B2.out)
  have RR2 := Lib.hid (((RR.out.below D0.out).slot (DD.out.below D0.out) (by decide) CH1.out).below B2.out)
  have CH2 := Lib.hid (((Chg.of_below (B := fun k => k = p) D0.out).trans CH1.out).trans (Chg.of_below B2.out))
  have V2 := Lib.hid (show BytesV w2 vd d from V.out.below (BB.out.trans (CH2.out.below (fun k e => by have e' : k = p := e; have := PB.out; omega) BB.out.size)))
  have d1 : w2.cell? ⟨w.heap.size + 1, 1, none⟩ = some (.int .u32 o) := (cell_of_row _ _ 1 _ _ _ AR2.out).trans (by rw [← HOF.out]; rfl)
  have d2 : w2.cell? ⟨w.heap.size + 1, 2, none⟩ = some vd := (cell_of_row _ _ 2 _ _ _ AR2.out).trans (by rw [← HVD.out]; rfl)
  obtain ⟨gs, hgs⟩ : ∃ z, w1.heap.size = z := ⟨_, rfl⟩
  have HGS := Lib.hid (show w.heap.size + 2 < gs by rw [← hgs]; exact Nat.lt_of_lt_of_le (Array.getElem?_eq_some_iff.1 RS0.out).1 CH1.out.size)
  rw [hgs] at T2 ⊢
  have SL2 := Lib.hid (SL1.out.below B2.out)
  have L7 := Lib.hid SL1.out.ok.len
  clear hgs AR AR2 AR0 DLD SL1 B2 OWN A0
  go_upto_region 7 with (first
    | (refine wpList_load_row rfl 37 (.tmp 4) rfl w.heap.size rfl 37 cs (0, 0) _ M2.out Tryz.underlying37 rfl (by rw [SZX.out]; kernel_rfl) ?_)
    | (go_at_call 30; go_loud (refine (RDL.out _ RR2.out V2.out).mono ?_; rintro e w3 ⟨lv2, dv2, rfl, h2, hnd, hb⟩; have PR3 := Lib.hid h2; have ND3 := Lib.hid hnd; have B3 := Lib.hid hb; have SZY := Lib.hid (St.cells_len7 y lv2 L7.out); have ONY := Lib.hid (St.cells_one y lv2 (own_one' h2.own)); clear h2 hb hnd; obtain ⟨cy, hcy⟩ : ∃ z, y.cells lv2 = z := ⟨_, rfl⟩; have HCY := Lib.hid hcy; rw [hcy] at SZY ONY ⊢; clear hcy))
    | (refine wpList_store_new rfl 37 (.tmp 10) (.tmp 45) rfl cy.toArray 37 _ rfl rfl (by rw [SZY.out]; kernel_rfl) (by rw [SZY.out]; rfl) ONY.out ?_; intro w4 hh hw; have Y4 := Lib.hid hh; have B34 := Lib.hid hw; have B4 := Lib.hid (gr_tr B3.out hw); clear hh hw))
  obtain ⟨g, hg⟩ : ∃ z, w3.heap.size = z := ⟨_, rfl⟩
  have GQ := Lib.hid (show w.heap.size + 2 < g by rw [← hg]; exact Nat.lt_of_lt_of_le (Array.getElem?_eq_some_iff.1 RS2.out).1 B3.out.size)
  rw [hg] at Y4 ⊢
  have SZC := Lib.hid (show cy.length = 14 by have := SZY.out; simpa using this)
  have NB := Lib.hid (show ¬ g = w.heap.size + 2 by have := GQ.out; omega)
  have NBE := Lib.hid (show ¬ gs = w.heap.size + 2 by have := HGS.out; omega)
  have OU4 := Lib.hid (own_below OU2.out B4.out)
  have CH3 := Lib.hid (CH2.out.trans (Chg.of_below B4.out))
  clear hg d1 d2 V2 VU M2 RDL
  go_wp2
  go_loopw [12] (fun i wr => ∃ (k : Nat) (l : Bs), k ≤ n ∧ i = .int .i64 k ∧ l.length = n ∧ Hid (wr.ownsRow W.heap.size 5 1 (.slice ad n cd) n (by8 l)) ∧ Hid (Chg (fun b => (Value.slice ad n cd).ownBlock = some b) w4 wr)) (fun i _ => n - (intOf i).toNat)
  case atStart => exact ⟨0, d, by omega, rfl, HN.out, OU4, Lib.hid (Chg.refl _ _)⟩
  case round =>
    obtain ⟨k, l, hk, rfl, hll, OR, CR⟩ := hrel
    by_cases hlt : k < n
    · obtain ⟨gq, hgq⟩ := own_someB OR.out (by omega)
      subst hgq
      obtain ⟨z, hz⟩ : ∃ z, l[k]? = some z := ⟨_, List.getElem?_eq_getElem (by omega)⟩
      have gx : wr.cell? ⟨gq, k, none⟩ = some (.int .u8 (uv z)) := by
        rw [World.ownsRow.cellAt OR.out k (by omega), by8_get, hz]; rfl
      have fx := World.ownsRow.frozenAt OR.out k
      clear hz
      go_wp2
      go_roundw
      case rel => exact ⟨k + 1, l.set k (z + 1#8), by omega, by go_num, by rw [List.length_set]; exact hll, Lib.hid (by rw [by8_setD]; exact (World.ownsRow.stored OR.out k _).1), Lib.hid (CR.out.trans (Chg.setCell (B := fun b => (Value.slice (some ⟨gq, 0, none⟩) n cd).ownBlock = some b) (p := ⟨gq, k, none⟩) _ rfl _))⟩
      case measure => simp [intOf]; omega
    · obtain rfl : k = n := by omega
      have Yr := Lib.hid (CR.out.blk Y4.out (own_apartB2 OU4.out Y4.out (by decide)))
      have Tr := Lib.hid (CR.out.blk (blk_below T2.out B4.out) (own_apartB2 OU4.out (blk_below T2.out B4.out) (by decide)))
      have RS4 := Lib.hid (CR.out.blk (blk_below RS2.out B4.out) (own_apartB2 OU4.out (blk_below RS2.out B4.out) (by decide)))
      have S4 := Lib.hid (SL2.out.below B4.out)
      have SL4 : Hid (SlAt wr p y lv1 dv1) := Lib.hid ⟨CR.out.blk S4.out.blk (own_apartB2 OU4.out S4.out.blk (by decide)), Fw.PcsAt.offOwn (w1 := w0) DD.out.pcs (by decide) OU4.out (by have := WL.out; omega) OLT.out ND1.out S4.out.pcs CR.out, S4.out.ok⟩
      have PR4 := Lib.hid (Fw.PcsAt.offOwn (w1 := w2) RR.out (by decide) OU4.out (by have := WL.out; omega) (fun k hk => (OU2.out.lt k hk).2) ND3.out (PR3.out.below B34.out) CR.out)
      have CH4 := Lib.hid (newer_chgB CH3.out (fun k hk => by have := (OU4.out.lt k hk).1; have := WL.out; omega) CR.out)
      have RG := Lib.hid (show wr.rangeAt g 0 cy from fun j v hj => by
        rw [Nat.zero_add]
        exact (cell_of_row _ _ j _ _ _ Yr.out).trans (by rw [List.getElem?_toArray, hj]))
      have RGE := Lib.hid (show wr.rangeAt gs 0 se from fun j v hj => by
        rw [Nat.zero_add]
        exact (cell_of_row _ _ j _ _ _ Tr.out).trans (by rw [List.getElem?_toArray, hj]))
      clear hll hlt hk OR CR
      go_upto_region 11 with fail
      have AGQ := Lib.hid (show ∀ W' lv1 dv1 dv2, SlAt W' p y lv1 dv1 → PcsAt 67 W' y.ps lv2 dv2 → Calls Tryz.prog 27 #[.pointer (some ⟨p, 0, none⟩), .agg cy.toArray] W' (fun e w' => e = .returned (.bool true) ∧ Below W'.heap.size W' w') from by rw [← HCY.out]; exact fun W' lv1 dv1 dv2 h h2 => AGR.out W' lv1 dv1 lv2 dv2 h h2)
      clear AGR
      refine wp_calm ?_
      refine wp_region_planW (fun k => k = w.heap.size + 2) [(true, 0), (true, 1), (true, 2), (false, 3), (true, 4), (true, 5), (true, 6), (false, 7), (true, 8), (false, 9), (true, 10)] (by kernel_rfl) (by kernel_rfl) (by intro c a d v w h; cases d <;> exact h) ?_
      intro W1 K1 C1
      refine wpS_load_mid rfl rfl 37 (.tmp 10) rfl g 0 rfl cy _ (fun x hx => Keep.rng hx RG.out NB.out) Tryz.underlying37 rfl (by rw [SZC.out]; kernel_rfl) ?_
      refine wpS_load_mid rfl rfl 56 (.tmp 9) rfl gs 0 rfl se _ (fun x hx => Keep.rng hx RGE.out NBE.out) Tryz.underlying56 rfl (by rw [SZE.out]; kernel_rfl) ?_
      (refine wpS_firm rfl (fun K hK => ?_); simp only [Keep]; go_simp; refine hK _ ?_; clear hK K)
      refine wpS_chain rfl ?_
      go_wp2_with (go_at_call 20; go_loud (refine (ISA.out _).mono ?_; rintro e w5 ⟨rfl, hb⟩; have B5 := Lib.hid (gr_tr C1.out hb); have K5 := Lib.hid (K1.out.chgK (Chg.of_below (B := fun k => k = w.heap.size + 2) hb) (fun k hk => .inl hk)); clear hb))
      refine ⟨K5.out, ?_⟩
      (refine wpS_firm rfl (fun K hK => ?_); simp only [Keep]; go_simp; refine hK _ ?_; clear hK K)
      (refine wpS_firm rfl (fun K hK => ?_); simp only [Keep]; go_simp; refine hK _ ?_; clear hK K)
      refine wpS_load_mid rfl rfl 37 (.tmp 10) rfl g 0 rfl cy _ (fun x hx => Keep.rng hx RG.out NB.out) Tryz.underlying37 rfl (by rw [SZC.out]; kernel_rfl) ?_
      refine wpS_chain rfl ?_
      go_wp2_with (go_at_call 27; go_loud (refine (AGQ.out _ _ _ _ (SL4.out.below B5.out) (PR4.out.below B5.out)).mono ?_; rintro e w6 ⟨rfl, hb⟩; have B6 := Lib.hid (gr_tr B5.out hb); have K6 := Lib.hid (K5.out.chgK (Chg.of_below (B := fun k => k = w.heap.size + 2) hb) (fun k hk => .inl hk)); clear hb))
      refine ⟨K6.out, ?_⟩
      (refine wpS_firm rfl (fun K hK => ?_); simp only [Keep]; go_simp; refine hK _ ?_; clear hK K)
      have RS6 := Lib.hid (blk_below RS4.out B6.out)
      refine wpS_chain rfl ?_
      refine wpList_store_rowC rfl 37 (.tmp 6) (.tmp 59) rfl (w.heap.size + 2) cy.toArray rfl rfl 37 _ RS6.out (by rw [SZY.out]; kernel_rfl) (by rw [SZY.out]; rfl) ONY.out ?_
      intro w9 h9 hc
      have X9 := Lib.hid h9; have C9 := Lib.hid hc
      have K9 := Lib.hid (K6.out.chgK hc (fun k hk => .inl hk))
      clear h9 hc
      go_wp2
      refine ⟨K9.out, ?_⟩
      repeat (refine wpS_firm rfl (fun K hK => ?_); simp only [Keep]; go_simp; refine hK _ ?_; clear hK K)
      unfold wpS
      go_wp2
      refine bodyPost_ret (results_row_tmp rfl _ _ (w.heap.size + 2) 37 _ (0, 0) _ rfl X9.out Tryz.underlying37 rfl (by rw [SZY.out]; kernel_rfl)) rfl ?_
      show DoPost p (actS x c d) w _ _
      rw [HS.out]
      have CHG := newer_chg (CH4.out.trans (Chg.of_below B6.out)) (show w.heap.size ≤ w.heap.size + 2 by omega) C9.out
      exact ⟨_, _, lv2, dv2, by rw [HCY.out]; rfl, (SL4.out.below B6.out).set RS6.out (by decide) (by decide) (by decide) C9.out, (PR4.out.below B6.out).set RS6.out (by decide) (by decide) C9.out, CHG⟩
end Go.Proofs.YtabfmhlhdebcpaaGreatDoor
namespace Go.Proofs.YtabfmhlhdebcpaaGreatDoor
open Go.RowKit Go.Shelf Fw
set_option linter.unusedVariables false
set_option linter.unusedSimpArgs false
attribute [local go_sem] Oper.semAt_some
set_option maxRecDepth 20000 in
set_option maxHeartbeats 6400000 in
theorem do_image (p : Nat) (x : St) (lv lvr : Value) (dvs dvr : List Value) (c : Cl) (d : Bs) (w : World) (hd : SlAt w p x lv dvs) (hr : PcsAt 67 w x.ps lvr dvr) (wb : World) (hv : BytesV wb c.data d) (hpb : wb.heap.size ≤ p) (hbb : Below wb.heap.size wb w) (hl2 : d.length ≤ 200) (hrv : c.rev.length ≤ 9223372036854775807) (hk : c.kind = 5) (hi : imgOk c.rev d = true) :
    Calls Tryz.prog 15 #[.pointer (some ⟨p, 0, none⟩), .agg (x.cells lvr).toArray, .agg c.cells.toArray] w (DoPost p (actS x c d) w) := by
  have HS := Lib.hid (show actS x c d = dlS x 0 (imgB c.rev d) by unfold actS; rw [if_neg (by omega), if_neg (by omega), if_neg (by omega), if_pos hk, if_pos hi])
  obtain ⟨W, hW⟩ : ∃ W, W = ((w.alloc (.cells (x.cells lvr).toArray 37)).alloc (.cells c.cells.toArray 44)).alloc (.cells #[.int .i64 0, .bool false, .string ⟨#[]⟩, .int .i64 0, .int .i64 0, .int .i64 0, .string ⟨#[]⟩, .string ⟨#[]⟩, .string ⟨#[]⟩, .string ⟨#[]⟩, .string ⟨#[]⟩, .string ⟨#[]⟩, .string ⟨#[]⟩, .slice none 0 0] 37) := ⟨_, rfl⟩
  have A0 := Lib.hid (show DoAt w W x lvr c by rw [hW]; exact DoAt.new w x lvr c hd.ok.len (own_one' hr.own))
  have PL := Lib.hid (show p < w.heap.size from (Array.getElem?_eq_some_iff.1 hd.blk).1)
  have DD := Lib.hid hd; have RR := Lib.hid hr
  have hil : (imgB c.rev d).length ≤ 4611686018427387904 := by
    have h1 := hi
    unfold imgOk at h1
    rw [Bool.and_eq_true] at h1
    have h2 := revOk_is h1.1
    rw [imgB_len c.rev d h2.2.1]; omega
  have IMG := Lib.hid (fun W h => rImage_ok c.rev c.data d W hrv h hi)
  obtain ⟨im, him⟩ : ∃ z, imgB c.rev d = z := ⟨_, rfl⟩
  rw [him] at HS hil IMG
  have DLD := Lib.hid (fun W' v h hv => Download_at p x lv dvs 0 v im W' h hv (by omega) hil)
  have RDL := Lib.hid (fun W' v (h : PcsAt 67 W' x.ps lvr dvr) hv => rDownload_at x lvr dvr 0 v im W' hd.ok h hv (by omega) hil)
  have AGR := Lib.hid (fun W' lv1 dv1 lv2 dv2 (h : SlAt W' p (dlS x 0 im) lv1 dv1) h2 => agrees_at p (dlS x 0 im) lv1 lv2 dv1 dv2 W' h h2)
  have ISA := Lib.hid (fun w => is_at (dlE x 0 im) (dlE x 0 im) true w (dlE_kn x 0 im) (by simp))
  have ck : W.cell? ⟨w.heap.size + 1, 0, none⟩ = some (.int .i64 c.kind) := (cell_of_row _ _ 0 _ _ _ A0.out.a).trans rfl
  rw [hk] at ck
  have c2 : W.cell? ⟨w.heap.size + 1, 2, none⟩ = some c.data := (cell_of_row _ _ 2 _ _ _ A0.out.a).trans rfl
  have c5 : W.cell? ⟨w.heap.size + 1, 5, none⟩ = some (.string (strOf c.rev)) := (cell_of_row _ _ 5 _ _ _ A0.out.a).trans rfl
  obtain ⟨cs, hcs⟩ : ∃ z, (x.cells lvr).toArray = z := ⟨_, rfl⟩
  obtain ⟨cc, hcc⟩ : ∃ z, c.cells.toArray = z := ⟨_, rfl⟩
  rw [hcs, hcc] at hW ⊢
  have HW := Lib.hid hW
  have HCS := Lib.hid hcs
  have SZX := Lib.hid (show cs.size = 14 by rw [← hcs]; exact St.cells_len7 x lvr A0.out.len)
  have V := Lib.hid hv; have BB := Lib.hid hbb; have PB := Lib.hid hpb
  obtain ⟨y, hy⟩ : ∃ z, dlS x 0 im = z := ⟨_, rfl⟩
  obtain ⟨E, hE⟩ : ∃ z, dlE x 0 im = z := ⟨_, rfl⟩
  obtain ⟨se, hse⟩ : ∃ z, stL E = z := ⟨_, rfl⟩
  have SZE := Lib.hid (show se.length = 4 by rw [← hse]; rfl)
  have SZEA := Lib.hid (show se.toArray.size = 4 by rw [← hse]; rfl)
  have ONE := Lib.hid (show se.toArray.all (·.oneCell') = true by rw [← hse]; exact stC_one E)
  obtain ⟨EI, hEI⟩ : ∃ z, (E : Int) = z := ⟨_, rfl⟩
  rw [hy] at AGR HS
  rw [hE] at ISA
  replace DLD := Lib.hid (show ∀ W' v (h : SlAt W' p x lv dvs) (hv : BytesV W' v im), Calls Tryz.prog 21 #[.pointer (some ⟨p, 0, none⟩), .int .u32 0, v] W' (fun e w' => ∃ lv' dvs', e = .returned (.agg se.toArray) ∧ SlAt w' p y lv' dvs' ∧ NewD W' dvs dvs' ∧ Chg (fun k => k = p) W' w') from by rw [← hse, ← hE, ← hy]; exact DLD.out)
  replace RDL := Lib.hid (show ∀ W' v (h : PcsAt 67 W' x.ps lvr dvr) (hv : BytesV W' v im), Calls Tryz.prog 30 #[.agg cs, .int .u32 0, v] W' (fun e w' => ∃ lv' dvs', e = .returned (.tuple #[.agg (y.cells lv').toArray, .int .i64 EI]) ∧ PcsAt 67 w' y.ps lv' dvs' ∧ NewD W' dvr dvs' ∧ Below W'.heap.size W' w') from by rw [← hcs, ← hEI, ← hE, ← hy]; exact RDL.out)
  replace ISA := Lib.hid (show ∀ w, Calls Tryz.prog 20 #[.agg se.toArray, .int .i64 EI] w (fun e w' => e = .returned (.bool true) ∧ Below w.heap.size w w') from by rw [← hse, ← hEI]; exact ISA.out)
  obtain ⟨vd, hvd⟩ : ∃ z, c.data = z := ⟨_, rfl⟩
  obtain ⟨st, hst⟩ : ∃ z, strOf c.rev = z := ⟨_, rfl⟩
  rw [hvd] at c2 IMG V
  rw [hst] at c5 IMG
  clear hy hE hse hEI hW hd hr hcs hcc hk hvd hv hbb hpb hst him hil hi hrv
  go_enter Tryz.func15, Tryz.ntmps15
  go_upto_region 1 with fail
  rw [← HW.out]
  go_upto_region 25 with (go_at_call 18; go_loud (refine (IMG.out _ (V.out.below (gr_tr BB.out A0.out.bel))).mono ?_; rintro e w0 ⟨u, rfl, ho, hb⟩; have OU := Lib.hid ho; have B0 := Lib.hid hb; clear ho hb))
  have D0 := Lib.hid (gr_tr A0.out.bel B0.out)
  have VU := Lib.hid OU.out.bytes
  clear ck c2 c5
  go_upto_region 26 with (first
    | (go_at_call 21; go_loud (refine (DLD.out _ _ (DD.out.below D0.out) VU.out).mono ?_; rintro e w1 ⟨lv1, dv1, rfl, hs, hnd, hc⟩; have SL1 := Lib.hid hs; have CH1 := Lib.hid hc; clear hs hc hnd))
    | (refine wpList_store_new rfl 56 (.tmp 22) (.tmp 135) rfl se.toArray 56 _ rfl rfl (by rw [SZEA.out]; kernel_rfl) (by rw [SZEA.out]; rfl) ONE.out ?_; intro w2 hh hw; have T2 := Lib.hid hh; have B2 := Lib.hid hw; clear hh hw))
  have M0 := Lib.hid (show w0.heap[w.heap.size]? = some (.cells cs 37 (0, 0)) by rw [← HCS.out]; exact blk_below A0.out.m B0.out)
  have RS0 := Lib.hid (blk_below A0.out.r B0.out)
  have M2 := Lib.hid (blk_below (CH1.out.blk M0.out (fun e => by have := PL.out; have e' : w.heap.size = p := e; omega)) B2.out)
  have RS2 := Lib.hid (blk_below (CH1.out.blk RS0.out (fun e => by have := PL.out; have e' : w.heap.size + 2 = p := e; omega)) B2.out)
  have WL := Lib.hid (show w.heap.size + 2 < W.heap.size from (Array.getElem?_eq_some_iff.1 A0.out.r).1)
  have V2 := Lib.hid (show BytesV w2 u im from (VU.out.chg CH1.out (fun g o n c hg e => by have e' : g = p := e; subst hg; have := (OU.out.lt g rfl).1; have := PL.out; have := WL.out; omega)).below B2.out)
  have RR2 := Lib.hid (((RR.out.below D0.out).slot (DD.out.below D0.out) (by decide) CH1.out).below B2.out)
  have CH2 := Lib.hid (((Chg.of_below (B := fun k => k = p) D0.out).trans CH1.out).trans (Chg.of_below B2.out))
  obtain ⟨gs, hgs⟩ : ∃ z, w1.heap.size = z := ⟨_, rfl⟩
  have HGS := Lib.hid (show w.heap.size + 2 < gs by rw [← hgs]; exact Nat.lt_of_lt_of_le (Array.getElem?_eq_some_iff.1 RS0.out).1 CH1.out.size)
  rw [hgs] at T2 ⊢
  have SL2 := Lib.hid (SL1.out.below B2.out)
  have L7 := Lib.hid SL1.out.ok.len
  clear hgs DLD SL1 B2 IMG A0
  go_upto_region 27 with (first
    | (refine wpList_load_row rfl 37 (.tmp 4) rfl w.heap.size rfl 37 cs (0, 0) _ M2.out Tryz.underlying37 rfl (by rw [SZX.out]; kernel_rfl) ?_)
    | (go_at_call 30; go_loud (refine (RDL.out _ _ RR2.out V2.out).mono ?_; rintro e w3 ⟨lv2, dv2, rfl, h2, -, hb⟩; have PR3 := Lib.hid h2; have B3 := Lib.hid hb; have SZY := Lib.hid (St.cells_len7 y lv2 L7.out); have ONY := Lib.hid (St.cells_one y lv2 (own_one' h2.own)); clear h2 hb; obtain ⟨cy, hcy⟩ : ∃ z, y.cells lv2 = z := ⟨_, rfl⟩; have HCY := Lib.hid hcy; rw [hcy] at SZY ONY ⊢; clear hcy))
    | (refine wpList_store_new rfl 37 (.tmp 23) (.tmp 140) rfl cy.toArray 37 _ rfl rfl (by rw [SZY.out]; kernel_rfl) (by rw [SZY.out]; rfl) ONY.out ?_; intro w4 hh hw; have Y4 := Lib.hid hh; have B34 := Lib.hid hw; have B4 := Lib.hid (gr_tr B3.out hw); clear hh hw))
  obtain ⟨g, hg⟩ : ∃ z, w3.heap.size = z := ⟨_, rfl⟩
  have GQ := Lib.hid (show w.heap.size + 2 < g by rw [← hg]; exact Nat.lt_of_lt_of_le (Array.getElem?_eq_some_iff.1 RS2.out).1 B3.out.size)
  rw [hg] at Y4 ⊢
  have RG := Lib.hid (show w4.rangeAt g 0 cy from fun j v hj => by
    rw [Nat.zero_add]
    exact (cell_of_row _ _ j _ _ _ Y4.out).trans (by rw [List.getElem?_toArray, hj]))
  have RGE := Lib.hid (show w4.rangeAt gs 0 se from fun j v hj => by
    rw [Nat.zero_add]
    exact (cell_of_row _ _ j _ _ _ (blk_below T2.out B4.out)).trans (by rw [List.getElem?_toArray, hj]))
  have SL4 := Lib.hid (SL2.out.below B4.out)
  have PR4 := Lib.hid (PR3.out.below B34.out)
  have RS4 := Lib.hid (blk_below RS2.out B4.out)
  have CH4 := Lib.hid (CH2.out.trans (Chg.of_below B4.out))
  have SZC := Lib.hid (show cy.length = 14 by have := SZY.out; simpa using this)
  have NB := Lib.hid (show ¬ g = w.heap.size + 2 by have := GQ.out; omega)
  have NBE := Lib.hid (show ¬ gs = w.heap.size + 2 by have := HGS.out; omega)
  clear hg SL2 PR3 RS2 CH2 B4 B34
  have AGQ := Lib.hid (show ∀ W' lv1 dv1 dv2, SlAt W' p y lv1 dv1 → PcsAt 67 W' y.ps lv2 dv2 → Calls Tryz.prog 27 #[.pointer (some ⟨p, 0, none⟩), .agg cy.toArray] W' (fun e w' => e = .returned (.bool true) ∧ Below W'.heap.size W' w') from by rw [← HCY.out]; exact fun W' lv1 dv1 dv2 h h2 => AGR.out W' lv1 dv1 lv2 dv2 h h2)
  clear AGR
  refine wp_calm ?_
  refine wp_region_planW (fun k => k = w.heap.size + 2) [(true, 0), (true, 1), (true, 2), (false, 3), (true, 4), (true, 5), (true, 6), (false, 7), (true, 8), (false, 9), (true, 10)] (by kernel_rfl) (by kernel_rfl) (by intro c a d v w h; cases d <;> exact h) ?_
  intro W1 K1 C1
  refine wpS_load_mid rfl rfl 37 (.tmp 23) rfl g 0 rfl cy _ (fun x hx => Keep.rng hx RG.out NB.out) Tryz.underlying37 rfl (by rw [SZC.out]; kernel_rfl) ?_
  refine wpS_load_mid rfl rfl 56 (.tmp 22) rfl gs 0 rfl se _ (fun x hx => Keep.rng hx RGE.out NBE.out) Tryz.underlying56 rfl (by rw [SZE.out]; kernel_rfl) ?_
  (refine wpS_firm rfl (fun K hK => ?_); simp only [Keep]; go_simp; refine hK _ ?_; clear hK K)
  refine wpS_chain rfl ?_
  go_wp2_with (go_at_call 20; go_loud (refine (ISA.out _).mono ?_; rintro e w5 ⟨rfl, hb⟩; have B5 := Lib.hid (gr_tr C1.out hb); have K5 := Lib.hid (K1.out.chgK (Chg.of_below (B := fun k => k = w.heap.size + 2) hb) (fun k hk => .inl hk)); clear hb))
  refine ⟨K5.out, ?_⟩
  (refine wpS_firm rfl (fun K hK => ?_); simp only [Keep]; go_simp; refine hK _ ?_; clear hK K)
  (refine wpS_firm rfl (fun K hK => ?_); simp only [Keep]; go_simp; refine hK _ ?_; clear hK K)
  refine wpS_load_mid rfl rfl 37 (.tmp 23) rfl g 0 rfl cy _ (fun x hx => Keep.rng hx RG.out NB.out) Tryz.underlying37 rfl (by rw [SZC.out]; kernel_rfl) ?_
  refine wpS_chain rfl ?_
  go_wp2_with (go_at_call 27; go_loud (refine (AGQ.out _ _ _ _ (SL4.out.below B5.out) (PR4.out.below B5.out)).mono ?_; rintro e w6 ⟨rfl, hb⟩; have B6 := Lib.hid (gr_tr B5.out hb); have K6 := Lib.hid (K5.out.chgK (Chg.of_below (B := fun k => k = w.heap.size + 2) hb) (fun k hk => .inl hk)); clear hb))
  refine ⟨K6.out, ?_⟩
  (refine wpS_firm rfl (fun K hK => ?_); simp only [Keep]; go_simp; refine hK _ ?_; clear hK K)
  have RS6 := Lib.hid (blk_below RS4.out B6.out)
  refine wpS_chain rfl ?_
  refine wpList_store_rowC rfl 37 (.tmp 6) (.tmp 142) rfl (w.heap.size + 2) cy.toArray rfl rfl 37 _ RS6.out (by rw [SZY.out]; kernel_rfl) (by rw [SZY.out]; rfl) ONY.out ?_
  intro w9 h9 hc
  have X9 := Lib.hid h9; have C9 := Lib.hid hc
  have K9 := Lib.hid (K6.out.chgK hc (fun k hk => .inl hk))
  clear h9 hc
  go_wp2
  refine ⟨K9.out, ?_⟩
  repeat (refine wpS_firm rfl (fun K hK => ?_); simp only [Keep]; go_simp; refine hK _ ?_; clear hK K)
  unfold wpS
  go_wp2
  refine bodyPost_ret (results_row_tmp rfl _ _ (w.heap.size + 2) 37 _ (0, 0) _ rfl X9.out Tryz.underlying37 rfl (by rw [SZY.out]; kernel_rfl)) rfl ?_
  show DoPost p (actS x c d) w _ _
  rw [HS.out]
  have CHG := newer_chg (CH4.out.trans (Chg.of_below B6.out)) (show w.heap.size ≤ w.heap.size + 2 by omega) C9.out
  exact ⟨_, _, lv2, dv2, by rw [HCY.out]; rfl, (SL4.out.below B6.out).set RS6.out (by decide) (by decide) (by decide) C9.out, (PR4.out.below B6.out).set RS6.out (by decide) (by decide) C9.out, CHG⟩
set_option maxRecDepth 20000 in
set_option maxHeartbeats 6400000 in
theorem do_imageN (p : Nat) (x : St) (lv lvr : Value) (dvs dvr : List Value) (c : Cl) (d : Bs) (w : World) (hd : SlAt w p x lv dvs) (hr : PcsAt 67 w x.ps lvr dvr) (wb : World) (hv : BytesV wb c.data d) (hpb : wb.heap.size ≤ p) (hbb : Below wb.heap.size wb w) (hl2 : d.length ≤ 200) (hrv : c.rev.length ≤ 9223372036854775807) (hk : c.kind = 5) (hi : imgOk c.rev d = false) :
    Calls Tryz.prog 15 #[.pointer (some ⟨p, 0, none⟩), .agg (x.cells lvr).toArray, .agg c.cells.toArray] w (DoPost p (actS x c d) w) := by
  have HS := Lib.hid (show actS x c d = x by unfold actS; rw [if_neg (by omega), if_neg (by omega), if_neg (by omega), if_pos hk, if_neg (by rw [hi]; decide)])
  obtain ⟨W, hW⟩ : ∃ W, W = ((w.alloc (.cells (x.cells lvr).toArray 37)).alloc (.cells c.cells.toArray 44)).alloc (.cells #[.int .i64 0, .bool false, .string ⟨#[]⟩, .int .i64 0, .int .i64 0, .int .i64 0, .string ⟨#[]⟩, .string ⟨#[]⟩, .string ⟨#[]⟩, .string ⟨#[]⟩, .string ⟨#[]⟩, .string ⟨#[]⟩, .string ⟨#[]⟩, .slice none 0 0] 37) := ⟨_, rfl⟩
  have A0 := Lib.hid (show DoAt w W x lvr c by rw [hW]; exact DoAt.new w x lvr c hd.ok.len (own_one' hr.own))
  have PL := Lib.hid (show p < w.heap.size from (Array.getElem?_eq_some_iff.1 hd.blk).1)
  have DD := Lib.hid hd; have RR := Lib.hid hr
  have IMG := Lib.hid (fun W h => rImage_no c.rev c.data d W hrv h hi)
  have ck : W.cell? ⟨w.heap.size + 1, 0, none⟩ = some (.int .i64 c.kind) := (cell_of_row _ _ 0 _ _ _ A0.out.a).trans rfl
  rw [hk] at ck
  have c2 : W.cell? ⟨w.heap.size + 1, 2, none⟩ = some c.data := (cell_of_row _ _ 2 _ _ _ A0.out.a).trans rfl
  have c5 : W.cell? ⟨w.heap.size + 1, 5, none⟩ = some (.string (strOf c.rev)) := (cell_of_row _ _ 5 _ _ _ A0.out.a).trans rfl
  have SZX := Lib.hid (St.cells_len7 x lvr A0.out.len)
  have ONX := Lib.hid (St.cells_one x lvr A0.out.one)
  obtain ⟨cs, hcs⟩ : ∃ z, x.cells lvr = z := ⟨_, rfl⟩
  have HCS := Lib.hid hcs
  obtain ⟨cc, hcc⟩ : ∃ z, c.cells.toArray = z := ⟨_, rfl⟩
  have MM := Lib.hid A0.out.m
  rw [hcs] at SZX ONX
  rw [hcs, hcc] at hW
  rw [hcs, hcc]
  have HW := Lib.hid hW
  have V := Lib.hid hv; have BB := Lib.hid hbb
  obtain ⟨vd, hvd⟩ : ∃ z, c.data = z := ⟨_, rfl⟩
  obtain ⟨st, hst⟩ : ∃ z, strOf c.rev = z := ⟨_, rfl⟩
  rw [hvd] at c2 IMG V
  rw [hst] at c5 IMG
  replace MM : Hid (W.heap[w.heap.size]? = some (.cells cs.toArray 37 (0, 0))) := Lib.hid (by rw [← hcs]; exact MM.out)
  clear hW hd hr hcc hk hvd hv hbb hpb hst hi hrv hcs
  go_enter Tryz.func15, Tryz.ntmps15
  go_upto_region 1 with fail
  rw [← HW.out]
  go_upto_region 24 with (go_at_call 18; go_loud (refine (IMG.out _ (V.out.below (gr_tr BB.out A0.out.bel))).mono ?_; rintro e w0 ⟨rfl, hb⟩; have B0 := Lib.hid hb; clear hb))
  have M0 := Lib.hid (blk_below MM.out B0.out)
  have RS0 := Lib.hid (blk_below A0.out.r B0.out)
  have D0 := Lib.hid (gr_tr A0.out.bel B0.out)
  clear ck c2 c5
  go_wp2_with (first
    | (refine wpList_load_row rfl 37 (.tmp 4) rfl w.heap.size rfl 37 cs.toArray (0, 0) _ M0.out Tryz.underlying37 rfl (by rw [SZX.out]; kernel_rfl) ?_)
    | (refine wpList_store_rowC rfl 37 (.tmp 6) (.tmp 132) rfl (w.heap.size + 2) cs.toArray rfl rfl 37 _ RS0.out (by rw [SZX.out]; kernel_rfl) (by rw [SZX.out]; rfl) ONX.out ?_; intro w9 h9 hc; have X9 := Lib.hid h9; have C9 := Lib.hid hc; clear h9 hc))
  refine bodyPost_ret (results_row_tmp rfl _ _ (w.heap.size + 2) 37 _ (0, 0) _ rfl X9.out Tryz.underlying37 rfl (by rw [SZX.out]; kernel_rfl)) rfl ?_
  have B9 : Below w.heap.size w w9 := D0.out.trans (C9.out.below (fun k hk => by obtain rfl : k = w.heap.size + 2 := hk; omega) D0.out.size)
  show DoPost p (actS x c d) w _ _
  rw [HS.out]
  exact ⟨lv, dvs, lvr, dvr, by rw [HCS.out]; rfl, DD.out.below B9, RR.out.below B9, Chg.of_below B9⟩
/-- do, at any call. -/
theorem do_at (p : Nat) (x : St) (lv lvr : Value) (dvs dvr : List Value) (c : Cl) (d : Bs) (w : World) (hd : SlAt w p x lv dvs) (hr : PcsAt 67 w x.ps lvr dvr) (wb : World) (hR : Cl.R wb c) (hv : BytesV wb c.data d) (hpb : wb.heap.size ≤ p) (hbb : Below wb.heap.size wb w) (hl2 : d.length ≤ 200) :
    Calls Tryz.prog 15 #[.pointer (some ⟨p, 0, none⟩), .agg (x.cells lvr).toArray, .agg c.cells.toArray] w (DoPost p (actS x c d) w) := by
  obtain ⟨-, -, -, hI, -, hrv⟩ := id hR
  by_cases k0 : c.kind = 0
  · exact do_load0 p x lv lvr dvs dvr c d w hd hr wb hv hpb hbb hl2 k0
  by_cases k1 : c.kind = 1
  · exact do_load1 p x lv lvr dvs dvr c d w hd hr wb hv hpb hbb hl2 k1
  by_cases k2 : c.kind = 2
  · exact do_commit2 p x lv lvr dvs dvr c d w hd hr hI k2
  by_cases k3 : c.kind = 3
  · exact do_commit3 p x lv lvr dvs dvr c d w hd hr hI k3
  by_cases k4 : c.kind = 4
  · exact do_reset p x lv lvr dvs dvr c d w hd hr k4
  by_cases k5 : c.kind = 5
  · cases hi : imgOk c.rev d
    · exact do_imageN p x lv lvr dvs dvr c d w hd hr wb hv hpb hbb hl2 hrv k5 hi
    · exact do_image p x lv lvr dvs dvr c d w hd hr wb hv hpb hbb hl2 hrv k5 hi
  · exact do_none p x lv lvr dvs dvr c d w hd hr (by omega)
end Go.Proofs.YtabfmhlhdebcpaaGreatDoor
namespace Go.Proofs.YtabfmhlhdebcpaaGreatDoor
open Go.RowKit Go.Shelf Fw
set_option linter.unusedVariables false
set_option linter.unusedSimpArgs false
attribute [local go_sem] Oper.semAt_some
/-- The state of a loop of calls: slots at p, the reference's slots at q. -/
structure Lp (w0 : World) (p q : Nat) (x : St) (lv lvr : Value) (dvs dvr : List Value) (w : World) : Prop where
  s : SlAt w p x lv dvs
  r : PcsAt 67 w x.ps lvr dvr
  m : RbAt w q x lvr
  b : Below w0.heap.size w0 w
theorem Lp.below {w0 w w' : World} {p q : Nat} {x : St} {lv lvr : Value} {dvs dvr : List Value} (h : Lp w0 p q x lv lvr dvs dvr w) (hb : Below w.heap.size w w') : Lp w0 p q x lv lvr dvs dvr w' :=
  ⟨h.s.below hb, h.r.below hb, h.m.below hb, gr_tr h.b hb⟩
/-- The bytes of each call. -/
def Bys (w0 : World) (xs : List Cl) : Prop := ∀ x ∈ xs, Cl.R w0 x ∧ Cl.Small w0 x
/-- What a call leaves, and the store of the reference's slots behind it. -/
theorem Lp.next {w0 W1 w4 w5 : World} {p q : Nat} {x y : St} {lv lvr lv' lvr' : Value} {dvs dvr dvs' dvr' : List Value} (h : Lp w0 p q x lv lvr dvs dvr W1) (hp : w0.heap.size ≤ p) (hq : w0.heap.size ≤ q) (a1 : SlAt w4 p y lv' dvs') (a2 : PcsAt 67 w4 y.ps lvr' dvr') (a3 : Chg (fun k => k = p) W1 w4)
    (b1 : w5.heap[q]? = some (.cells (y.cells lvr').toArray 37 (0, 0))) (b2 : Chg (fun k => k = q) w4 w5) : Lp w0 p q y lv' lvr' dvs' dvr' w5 := by
  have hne : p ≠ q := fun e => by
    have h1 := h.s.blk; have h2 := h.m
    unfold RbAt at h2
    rw [e, h2] at h1
    injection h1 with h1; injection h1 with _ h1 _
    exact absurd h1 (by decide)
  have Q4 : w4.heap[q]? = some (.cells (x.cells lvr).toArray 37 (0, 0)) := a3.blk h.m (fun e => hne (Eq.symm e))
  refine ⟨a1.set Q4 (by decide) (by decide) (by decide) b2, a2.set Q4 (by decide) (by decide) b2, b1, ?_⟩
  have B4 : Below w0.heap.size w0 w4 := h.b.trans (a3.below (fun k e => by have e' : k = p := e; omega) h.b.size)
  exact B4.trans (b2.below (fun k e => by have e' : k = q := e; omega) B4.size)
theorem Fw.Cl.R.below {w w' : World} {x : Cl} (h : Cl.R w x) (hb : Below w.heap.size w w') : Cl.R w' x := by
  obtain ⟨h1, h2, ⟨xs, hs, hx⟩, h4⟩ := h
  exact ⟨h1, h2, ⟨xs, SliceV.below hs hb, hx⟩, h4⟩
/-- A change in a block of another type. -/
theorem Lp.set2 {w0 w w' : World} {p q gb : Nat} {x : St} {lv lvr : Value} {dvs dvr : List Value} {cs : Array Value} {fr : Nat × Nat} (h : Lp w0 p q x lv lvr dvs dvr w) (hp : p ≠ gb) (hq : q ≠ gb) (hb : w0.heap.size ≤ gb) (hg : w.heap[gb]? = some (.cells cs 34 fr)) (hc : Chg (fun k => k = gb) w w') : Lp w0 p q x lv lvr dvs dvr w' :=
  ⟨h.s.set hg (by decide) (by decide) (by decide) hc, h.r.set hg (by decide) (by decide) hc, hc.blk h.m (fun e => hq e), h.b.trans (hc.below (fun k e => by have e' : k = gb := e; omega) h.b.size)⟩
theorem Fw.Stt.ones (s : Stt) : s.cells.toArray.all (·.oneCell') = true := by
  rw [Array.all_eq_true_iff_forall_mem]
  intro v hv
  unfold Stt.cells revC at hv
  simp at hv
  rcases hv with rfl | rfl | ⟨r, -, rfl⟩
  all_goals rfl
theorem Cl.Small.back {w W : World} {x : Cl} (hR : Cl.R w x) (h : Cl.Small W x) : Cl.Small w x := by
  obtain ⟨d, ⟨a, c, e, -⟩, hl⟩ := h
  obtain ⟨d0, hd0⟩ := Cl.bytes hR
  obtain ⟨a0, c0, e0, -⟩ := id hd0
  have e1 := e.symm.trans e0
  injection e1 with _ e2 _
  exact ⟨d0, hd0, by omega⟩
end Go.Proofs.YtabfmhlhdebcpaaGreatDoor
