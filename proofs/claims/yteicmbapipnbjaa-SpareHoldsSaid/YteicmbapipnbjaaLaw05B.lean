/- The walk of capsulelaw05.works: the examples of the chapter. -/
import Derived.Test.YteicmbapipnbjaaLaw05A
namespace Go.Proofs.Yteicmbapipnbjaa
open Go.RowKit
set_option linter.unusedVariables false
set_option linter.unusedSimpArgs false
set_option maxRecDepth 8000 in
set_option maxHeartbeats 1600000 in
theorem works5_any (w : World) : Calls Try.prog 8 #[] w fun e w' => e = .returned (.bool true) ∧ Below w.heap.size w w' := by
  have hq := sp_eql 1 7 300 0 0 1
  have h64 : ((Sp.exE.length : Int) != 64) = false := by rw [Sp.exE_len]; decide
  have l4 : (4 : Int) < (Sp.exE.length : Int) := by rw [Sp.exE_len]; decide
  have l24 : (24 : Int) < (Sp.exE.length : Int) := by rw [Sp.exE_len]; decide
  have l28 : (28 : Int) < (Sp.exE.length : Int) := by rw [Sp.exE_len]; decide
  have l32 : (32 : Int) < (Sp.exE.length : Int) := by rw [Sp.exE_len]; decide
  go_enter Try.func8, Try.ntmps8
  go_upto_region 5 with (first
    | (refine wpList_store_new rfl 25 (.tmp 1) (.tmp 10) rfl #[.int .u8 1, .int .i64 7, .int .u64 300, .int .u64 0, .int .i64 0, .int .i64 1] 25 #[.int .u8 0, .int .i64 0, .int .u64 0, .int .u64 0, .int .i64 0, .int .i64 0] rfl rfl (by kernel_rfl) rfl (by simp [Value.oneCell']) ?_; intro w1 hr hw; have S1 := Lib.hid hr; have B := Lib.hid hw; clear hr hw)
    | (refine wpList_load_row rfl 25 (.tmp 1) rfl w.heap.size rfl 25 _ (0, 0) _ S1.out Try.underlying25 rfl (by kernel_rfl) ?_)
    | (go_at_call 9; go_loud ((with_reducible refine (ex_enc _).mono ?_); rintro r w2 ⟨x, rfl, hx, hw⟩; replace S1 := Lib.hid (blk_below S1.out hw); replace B := Lib.hid (gr_tr B.out hw); have X := Lib.hid hx; obtain ⟨g, o, c, rfl⟩ := hx.shapeAt (by rw [Sp.exE_len]; omega); have c4 : w2.cell? ⟨g, o + 4, none⟩ = some (.int .u8 1) := hx.cellAt Sp.exE_cells.1; have c24 : w2.cell? ⟨g, o + 24, none⟩ = some (.int .u8 7) := hx.cellAt Sp.exE_cells.2.1; have c28 : w2.cell? ⟨g, o + 28, none⟩ = some (.int .u8 0) := hx.cellAt Sp.exE_cells.2.2.1; have c32 : w2.cell? ⟨g, o + 32, none⟩ = some (.int .u8 1) := hx.cellAt Sp.exE_cells.2.2.2.1; have hglt : g < w2.heap.size := block_lt_of_cell c4; have hgn : ¬ g = w2.heap.size := (by omega); obtain ⟨u8, hu8, hr8, -⟩ := hx.cut (P := Try.prog) (T := 26) Try.underlying26 bsz 8 11 (by omega) (by rw [Sp.exE_len]; omega); have hr8 : ∀ w', (Instr.slice 26 (.slice (some ⟨g, o, none⟩) Sp.exE.length c) (some (.int .i64 8)) (some (.int .i64 11)) none).run Try.prog w' = .ok u8 w' := hr8; obtain ⟨u63, hu63, -, hr63⟩ := hx.cut (P := Try.prog) (T := 26) Try.underlying26 bsz 0 63 (by omega) (by rw [Sp.exE_len]; omega); have hr63 : ∀ w', (Instr.slice 26 (.slice (some ⟨g, o, none⟩) Sp.exE.length c) none (some (.int .i64 63)) none).run Try.prog w' = .ok u63 w' := hr63 rfl; have U8 := Lib.hid (show BytesV w2 u8 [44#8, 1#8, 0#8] by rw [← Sp.exE_cells.2.2.2.2, List.take_drop]; exact hu8); have U63 := Lib.hid (show BytesV w2 u63 (Sp.exE.take 63) from hu63); clear hx hw hu8 hu63; obtain ⟨a8, n8, k8, rfl⟩ := bytes_shape U8.out))
    | (go_at_call 12; (refine (num5_any _ _).mono ?_); rintro r w' ⟨rfl, rfl⟩)
    | (go_at_call 11; (refine (same5_at _ _ [44#8, 1#8, 0#8] [44#8, 1#8, 0#8] true (w2.alloc (.cells #[.int .u8 44, .int .u8 1, .int .u8 0] 5)) (U8.out.below (gr_alloc _ _)) (BytesV.lit w2 #[.int .u8 44, .int .u8 1, .int .u8 0] 5 [44#8, 1#8, 0#8] 3 rfl (by omega) rfl) (by decide)).mono ?_); rintro r w' ⟨rfl, rfl⟩))
  replace X := Lib.hid (X.out.below (gr_alloc w2 (.cells #[.int .u8 44, .int .u8 1, .int .u8 0] 5))); replace U63 := Lib.hid (U63.out.below (gr_alloc w2 (.cells #[.int .u8 44, .int .u8 1, .int .u8 0] 5))); replace S1 := Lib.hid (blk_below S1.out (gr_alloc w2 (.cells #[.int .u8 44, .int .u8 1, .int .u8 0] 5))); replace B := Lib.hid (gr_tr B.out (gr_alloc w2 (.cells #[.int .u8 44, .int .u8 1, .int .u8 0] 5)))
  clear U8 hr8 c4 c24 c28 c32 hglt hgn
  generalize w2.alloc (.cells #[.int .u8 44, .int .u8 1, .int .u8 0] 5) = w3 at *
  go_upto_region 6 with (first
    | (go_at_call 15; (with_reducible refine (ex_decA _ w3 X.out).mono ?_); rintro r w4 ⟨rfl, hw⟩; replace X := Lib.hid (X.out.below hw); replace U63 := Lib.hid (U63.out.below hw); replace S1 := Lib.hid (blk_below S1.out hw); replace B := Lib.hid (gr_tr B.out hw); clear hw)
    | (refine wpList_store_new rfl 25 (.tmp 4) (.tmp 58) rfl #[.int .u8 1, .int .i64 7, .int .u64 300, .int .u64 0, .int .i64 0, .int .i64 1] 25 #[.int .u8 0, .int .i64 0, .int .u64 0, .int .u64 0, .int .i64 0, .int .i64 0] rfl rfl (by kernel_rfl) rfl (by simp [Value.oneCell']) ?_; intro w5 hr hw; have S4 := Lib.hid hr; replace X := Lib.hid (X.out.below hw); replace U63 := Lib.hid (U63.out.below hw); replace S1 := Lib.hid (blk_below S1.out hw); replace B := Lib.hid (gr_tr B.out hw); clear hr hw))
  go_upto_region 7 with (first
    | (go_at_call 15; (with_reducible refine (ex_decB _ _ (w5.alloc (.cells #[.int .u8 0] 5)) (X.out.below (gr_alloc w5 (.cells #[.int .u8 0] 5))) (BytesV.lit w5 #[.int .u8 0] 5 [0#8] 1 rfl (by omega) rfl)).mono ?_); rintro r w6 ⟨rfl, hw⟩; replace hw := gr_tr (gr_alloc w5 (.cells #[.int .u8 0] 5)) hw; replace X := Lib.hid (X.out.below hw); replace U63 := Lib.hid (U63.out.below hw); replace S1 := Lib.hid (blk_below S1.out hw); replace S4 := Lib.hid (blk_below S4.out hw); replace B := Lib.hid (gr_tr B.out hw); clear hw)
    | (refine wpList_store_new rfl 25 (.tmp 6) (.tmp 64) rfl #[.int .u8 0, .int .i64 0, .int .u64 0, .int .u64 0, .int .i64 0, .int .i64 0] 25 #[.int .u8 0, .int .i64 0, .int .u64 0, .int .u64 0, .int .i64 0, .int .i64 0] rfl rfl (by kernel_rfl) rfl (by simp [Value.oneCell']) ?_; intro w7 hr hw; have S6 := Lib.hid hr; replace X := Lib.hid (X.out.below hw); replace U63 := Lib.hid (U63.out.below hw); replace S1 := Lib.hid (blk_below S1.out hw); replace S4 := Lib.hid (blk_below S4.out hw); replace B := Lib.hid (gr_tr B.out hw); clear hr hw))
  go_upto_region 8 with (first
    | (go_at_call 15; (with_reducible refine (ex_decC _ w7 U63.out).mono ?_); rintro r w8 ⟨rfl, hw⟩; replace X := Lib.hid (X.out.below hw); replace U63 := Lib.hid (U63.out.below hw); replace S1 := Lib.hid (blk_below S1.out hw); replace S4 := Lib.hid (blk_below S4.out hw); replace S6 := Lib.hid (blk_below S6.out hw); replace B := Lib.hid (gr_tr B.out hw); clear hw)
    | (refine wpList_store_new rfl 25 (.tmp 8) (.tmp 70) rfl #[.int .u8 0, .int .i64 0, .int .u64 0, .int .u64 0, .int .i64 0, .int .i64 0] 25 #[.int .u8 0, .int .i64 0, .int .u64 0, .int .u64 0, .int .i64 0, .int .i64 0] rfl rfl (by kernel_rfl) rfl (by simp [Value.oneCell']) ?_; intro w9 hr hw; have S8 := Lib.hid hr; replace X := Lib.hid (X.out.below hw); replace U63 := Lib.hid (U63.out.below hw); replace S1 := Lib.hid (blk_below S1.out hw); replace S4 := Lib.hid (blk_below S4.out hw); replace S6 := Lib.hid (blk_below S6.out hw); replace B := Lib.hid (gr_tr B.out hw); clear hr hw))
  go_wp2_with (first
    | (go_at_call 12; (refine (num5_any _ _).mono ?_); rintro r w' ⟨rfl, rfl⟩)
    | (refine wpList_unguard (by rfl) (wpList_load_row rfl 25 (.tmp 4) rfl w4.heap.size rfl 25 _ (0, 0) _ S4.out Try.underlying25 rfl (by kernel_rfl) ?_))
    | (refine wpList_unguard (by rfl) (wpList_load_row rfl 25 (.tmp 1) rfl w.heap.size rfl 25 _ (0, 0) _ S1.out Try.underlying25 rfl (by kernel_rfl) ?_))
    | (go_at_call 13; (with_reducible refine (ex_valA _).mono ?_); rintro r w10 ⟨rfl, hw⟩; replace B := Lib.hid (gr_tr B.out hw); clear hw)
    | (go_at_call 13; (with_reducible refine (ex_valB _).mono ?_); rintro r w11 ⟨rfl, hw⟩; replace B := Lib.hid (gr_tr B.out hw); clear hw)
    | (go_at_call 13; (with_reducible refine (ex_valC _).mono ?_); rintro r w12 ⟨rfl, hw⟩; replace B := Lib.hid (gr_tr B.out hw); clear hw))
  go_ret
  exact ⟨rfl, B.out⟩
end Go.Proofs.Yteicmbapipnbjaa
