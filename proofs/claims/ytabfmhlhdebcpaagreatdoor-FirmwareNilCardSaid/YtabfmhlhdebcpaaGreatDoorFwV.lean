/- Firmware: every method at a nil receiver and at a zero value. -/
import Derived.Test.YtabfmhlhdebcpaaGreatDoorFwM3
namespace Go.Proofs.YtabfmhlhdebcpaaGreatDoor
open Go.RowKit Go.Shelf Fw
set_option linter.unusedVariables false
set_option linter.unusedSimpArgs false
attribute [local go_sem] Oper.semAt_some
def NilV (w : World) (v : Value) : Prop := v = .pointer none ∨ ∃ p, v = .pointer (some ⟨p, 0, none⟩) ∧ w.cell? ⟨p, 0, none⟩ = some (.int .i64 0)
theorem NilV.below {w w' : World} {v : Value} (h : NilV w v) (hb : Below w.heap.size w w') : NilV w' v := by
  rcases h with h | ⟨p, h1, h3⟩
  · exact .inl h
  · exact .inr ⟨p, h1, below_cellE hb h3⟩
theorem none_any (v : Value) (w : World) (h : NilV w v) :
    Calls Tryz.prog 40 #[v] w fun e w' => e = .returned (.bool true) ∧ w = w' := by
  rcases h with rfl | ⟨p, rfl, h3⟩
  · exact none_nil w
  · exact none_zero p w h3
theorem Reset_nil (v : Value) (w : World) (h : NilV w v) :
    Calls Tryz.prog 24 #[v] w fun e w' => e = .returned (.tuple #[.bool false, .int .i64 1]) ∧ w = w' := by
  have NON := Lib.hid (fun w h => none_any v w h)
  have N1 := Lib.hid h
  clear h
  go_enter Tryz.func24, Tryz.ntmps24
  go_wp2_with (go_at_call 40; go_loud (refine (NON.out _ N1.out).mono ?_; rintro e w1 ⟨rfl, rfl⟩))
  go_ret2
  exact ⟨rfl, rfl⟩
theorem Copy_nil (v : Value) (w : World) (h : NilV w v) :
    Calls Tryz.prog 26 #[v] w fun e w' => e = .returned (.pointer none) ∧ w = w' := by
  have NON := Lib.hid (fun w h => none_any v w h)
  have N1 := Lib.hid h
  clear h
  go_enter Tryz.func26, Tryz.ntmps26
  go_wp2_with (go_at_call 40; go_loud (refine (NON.out _ N1.out).mono ?_; rintro e w1 ⟨rfl, rfl⟩))
  go_ret
  exact ⟨rfl, rfl⟩
set_option maxRecDepth 20000 in
theorem Download_nil (v x d : Value) (w : World) (h : NilV w v) :
    Calls Tryz.prog 21 #[v, x, d] w fun e w' => e = .returned (.agg (stC 6)) ∧ Below w.heap.size w w' := by
  have NON := Lib.hid (fun w h => none_any v w h)
  obtain ⟨W, hW⟩ : ∃ W, W = w.alloc (.cells #[.int .u8 0, .int .u8 0, .bool false, .bool false] 56) := ⟨_, rfl⟩
  have D := Lib.hid (show Below w.heap.size w W by rw [hW]; exact gr_alloc w _)
  have X := Lib.hid (show W.heap[w.heap.size]? = some (.cells #[.int .u8 0, .int .u8 0, .bool false, .bool false] 56 (0, 0)) by rw [hW]; exact heap_alloc_new w _)
  have HW := Lib.hid hW
  have N1 := Lib.hid (h.below D.out)
  clear hW h
  go_enter Tryz.func21, Tryz.ntmps21
  go_upto_region 1 with fail
  rw [← HW.out]
  go_wp2_with (first | (go_at_call 40; go_loud (refine (NON.out _ N1.out).mono ?_; rintro e w1 ⟨rfl, rfl⟩)) | (go_at_call 41; go_loud (refine (status_at 6 _ Kn.k6).mono ?_; rintro e w1 ⟨rfl, hb⟩; have X1 := Lib.hid (blk_below X.out hb); have D1 := Lib.hid (gr_tr D.out hb); clear hb)) | (refine wpList_store_rowC rfl 56 (.tmp 6) (.tmp 15) rfl w.heap.size (stC 6) rfl rfl 56 _ X1.out (by kernel_rfl) rfl (stC_one _) ?_; intro w9 h9 hc; have X9 := Lib.hid h9; have C9 := Lib.hid hc; clear h9 hc))
  exact bodyPost_ret (results_cell_row rfl _ _ w.heap.size 56 _ (0, 0) _ rfl X9.out Tryz.underlying56 rfl (by kernel_rfl)) rfl ⟨rfl, Chg.fresh C9.out D1.out (fun k hk => by obtain rfl : k = w.heap.size := hk; exact Nat.le_refl _)⟩
set_option maxRecDepth 20000 in
theorem Commit_nil (v x d : Value) (w : World) (h : NilV w v) :
    Calls Tryz.prog 22 #[v, x, d] w fun e w' => e = .returned (.agg (stC 6)) ∧ Below w.heap.size w w' := by
  have NON := Lib.hid (fun w h => none_any v w h)
  obtain ⟨W, hW⟩ : ∃ W, W = w.alloc (.cells #[.int .u8 0, .int .u8 0, .bool false, .bool false] 56) := ⟨_, rfl⟩
  have D := Lib.hid (show Below w.heap.size w W by rw [hW]; exact gr_alloc w _)
  have X := Lib.hid (show W.heap[w.heap.size]? = some (.cells #[.int .u8 0, .int .u8 0, .bool false, .bool false] 56 (0, 0)) by rw [hW]; exact heap_alloc_new w _)
  have HW := Lib.hid hW
  have N1 := Lib.hid (h.below D.out)
  clear hW h
  go_enter Tryz.func22, Tryz.ntmps22
  go_upto_region 1 with fail
  rw [← HW.out]
  go_wp2_with (first | (go_at_call 40; go_loud (refine (NON.out _ N1.out).mono ?_; rintro e w1 ⟨rfl, rfl⟩)) | (go_at_call 41; go_loud (refine (status_at 6 _ Kn.k6).mono ?_; rintro e w1 ⟨rfl, hb⟩; have X1 := Lib.hid (blk_below X.out hb); have D1 := Lib.hid (gr_tr D.out hb); clear hb)) | (refine wpList_store_rowC rfl 56 (.tmp 6) (.tmp 11) rfl w.heap.size (stC 6) rfl rfl 56 _ X1.out (by kernel_rfl) rfl (stC_one _) ?_; intro w9 h9 hc; have X9 := Lib.hid h9; have C9 := Lib.hid hc; clear h9 hc))
  exact bodyPost_ret (results_cell_row rfl _ _ w.heap.size 56 _ (0, 0) _ rfl X9.out Tryz.underlying56 rfl (by kernel_rfl)) rfl ⟨rfl, Chg.fresh C9.out D1.out (fun k hk => by obtain rfl : k = w.heap.size := hk; exact Nat.le_refl _)⟩
set_option maxRecDepth 20000 in
theorem State_nil (v : Value) (w : World) (h : NilV w v) :
    Calls Tryz.prog 23 #[v] w fun e w' => e = .returned (.agg #[.int .i64 0, .int .i64 0, .string ⟨#[]⟩, .string ⟨#[]⟩, .string ⟨#[]⟩, .string ⟨#[]⟩, .string ⟨#[]⟩, .string ⟨#[]⟩, .string ⟨#[]⟩]) ∧ Below w.heap.size w w' := by
  have NON := Lib.hid (fun w h => none_any v w h)
  obtain ⟨W, hW⟩ : ∃ W, W = w.alloc (.cells #[.int .i64 0, .int .i64 0, .string ⟨#[]⟩, .string ⟨#[]⟩, .string ⟨#[]⟩, .string ⟨#[]⟩, .string ⟨#[]⟩, .string ⟨#[]⟩, .string ⟨#[]⟩] 34) := ⟨_, rfl⟩
  have D := Lib.hid (show Below w.heap.size w W by rw [hW]; exact gr_alloc w _)
  have X := Lib.hid (show W.heap[w.heap.size]? = some (.cells #[.int .i64 0, .int .i64 0, .string ⟨#[]⟩, .string ⟨#[]⟩, .string ⟨#[]⟩, .string ⟨#[]⟩, .string ⟨#[]⟩, .string ⟨#[]⟩, .string ⟨#[]⟩] 34 (0, 0)) by rw [hW]; exact heap_alloc_new w _)
  have HW := Lib.hid hW
  have N1 := Lib.hid (h.below D.out)
  clear hW h
  go_enter Tryz.func23, Tryz.ntmps23
  go_upto_region 1 with fail
  rw [← HW.out]
  go_wp2_with (first | (go_at_call 40; go_loud (refine (NON.out _ N1.out).mono ?_; rintro e w1 ⟨rfl, rfl⟩)) | (go_loud (refine wpList_store_row rfl 34 (.tmp 2) (.tmp 5) rfl w.heap.size #[.int .i64 0, .int .i64 0, .string ⟨#[]⟩, .string ⟨#[]⟩, .string ⟨#[]⟩, .string ⟨#[]⟩, .string ⟨#[]⟩, .string ⟨#[]⟩, .string ⟨#[]⟩] rfl rfl 34 _ X.out (by kernel_rfl) rfl (by simp [Value.oneCell']) ?_)))
  exact bodyPost_ret (results_cell_row rfl _ _ w.heap.size 34 _ (0, 0) _ rfl (setRow_heap _ _ _ _ _ _ X.out) Tryz.underlying34 rfl (by kernel_rfl)) rfl ⟨rfl, below_setRow D.out (Nat.le_refl _) _⟩
set_option maxRecDepth 20000 in
theorem Pieces_nil (v : Value) (w : World) (h : NilV w v) :
    Calls Tryz.prog 25 #[v] w fun e w' => e = .returned (.func (.func 51) #[] #[.pointer (some ⟨w.heap.size, 0, none⟩)]) ∧ w'.heap[w.heap.size]? = some (.cells #[.slice none 0 0] 72 (0, 0)) ∧ Below w.heap.size w w' := by
  have NON := Lib.hid (fun w h => none_any v w h)
  obtain ⟨W, hW⟩ : ∃ W, W = w.alloc (.cells #[.slice none 0 0] 72) := ⟨_, rfl⟩
  have D := Lib.hid (show Below w.heap.size w W by rw [hW]; exact gr_alloc w _)
  have X := Lib.hid (show W.heap[w.heap.size]? = some (.cells #[.slice none 0 0] 72 (0, 0)) by rw [hW]; exact heap_alloc_new w _)
  have HW := Lib.hid hW
  have N1 := Lib.hid (h.below D.out)
  clear hW h
  go_enter Tryz.func25, Tryz.ntmps25
  go_upto_region 2 with fail
  rw [← HW.out]
  go_wp2_with (go_at_call 40; go_loud (refine (NON.out _ N1.out).mono ?_; rintro e w1 ⟨rfl, rfl⟩))
  go_ret
  exact ⟨rfl, X.out, D.out⟩
end Go.Proofs.YtabfmhlhdebcpaaGreatDoor
