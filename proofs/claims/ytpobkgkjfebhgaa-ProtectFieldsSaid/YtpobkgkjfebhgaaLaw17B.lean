/- The walk of capsulelaw17.works. -/
import Derived.Test.YtpobkgkjfebhgaaLaw17A
import Derived.Test.YtpobkgkjfebhgaaGuarded
import Derived.Deep.DeepCutAuto
namespace Go.Proofs.Ytpobkgkjfebhgaa
open Go.RowKit
set_option linter.unusedVariables false
set_option linter.unusedSimpArgs false
structure Wk1 (n : Nat) (w : World) : Prop where
  a : w.cell? ⟨n, 0, none⟩ = some (.int .i64 1)
  b : w.cell? ⟨n, 1, none⟩ = some (.bool false)
  c : w.cell? ⟨n + 1, 0, none⟩ = some (.int .i64 3)
  d : w.cell? ⟨n + 1, 1, none⟩ = some (.bool true)
theorem Wk1.below {n : Nat} {w w' : World} (h : Wk1 n w) (hb : Below w.heap.size w w') : Wk1 n w' := ⟨below_get hb h.a, below_get hb h.b, below_get hb h.c, below_get hb h.d⟩
theorem made9 (w : World) (w' : World) (h : w'.ownsRow w.heap.size 5 1 (.slice (some ⟨w.heap.size, 0, none⟩) 9 9) 9 (madeCells (Value.int .u8 0).cells (9 * 1)).toList) : BytesV w' (.slice (some ⟨w.heap.size, 0, none⟩) 9 9) (List.replicate 9 0#8) := by
  rw [by8_made] at h
  exact BytesV.of_own (l := List.replicate 9 0#8) h
theorem blk_below {w w' : World} {g : Nat} {o : Obj} (h : w.heap[g]? = some o) (hb : Below w.heap.size w w') : w'.heap[g]? = some o := (hb.block g (block_lt h)).trans h
/-- A store into one cell of a block that is known whole. -/
theorem set_cell {W w : World} {g : Nat} {cs : Array Value} {t : TypeId} (h : w.heap[g]? = some (.cells cs t (0, 0))) (i : Nat) (v : Value) (hb : Below W.heap.size W w) (hg : W.heap.size ≤ g) :
    (w.setCell ⟨g, i, none⟩ v).heap[g]? = some (.cells (cs.setIfInBounds i v) t (0, 0)) ∧ (∀ k, k ≠ g → (w.setCell ⟨g, i, none⟩ v).heap[k]? = w.heap[k]?) ∧ Below W.heap.size W (w.setCell ⟨g, i, none⟩ v) :=
  ⟨heap_setCell_same _ _ _ _ _ _ h, fun k hk => heap_setCell_other _ _ _ _ hk, hb.setCell hg _⟩
theorem nine_lit (w : World) (o : Obj) (ho : o = .cells (by8 ex9).toArray 5) : BytesV (w.alloc o) (.slice (some ⟨w.heap.size, 0, none⟩) 9 9) ex9 := by
  subst ho
  exact BytesV.of_row (heap_alloc_new _ _) 9 rfl (by omega)
theorem BytesV.front {w : World} {b c n : Nat} {l : List (BitVec 8)} (h : BytesV w (.slice (some ⟨b, 0, none⟩) n c) l) (k : Nat) (hk : k ≤ l.length) : BytesV w (.slice (some ⟨b, 0, none⟩) k c) (l.take k) := by
  obtain ⟨a, c', e, h0, h1, h2, h3⟩ := h
  cases e
  refine ⟨_, _, by rw [List.length_take, Nat.min_eq_left hk], by simp, by rw [List.length_take]; omega, h2, ?_⟩
  have := h3.take k
  rwa [show (by8 l).take k = by8 (l.take k) by simp [by8]] at this
theorem str_exm {w : World} {v : Value} (h : BytesV w v exm) : (convert 46 9 v).run Try.prog w = .ok (.string ⟨#[0, 0, 0, 0, 2, 0, 0, 0, 3]⟩) w := run_string h
theorem str_1 {w : World} {v : Value} (h : BytesV w v [1#8]) : (convert 46 9 v).run Try.prog w = .ok (.string ⟨#[1]⟩) w := run_string h
theorem str_9 {w : World} {v : Value} (h : BytesV w v [9#8]) : (convert 46 9 v).run Try.prog w = .ok (.string ⟨#[9]⟩) w := run_string h
set_option maxRecDepth 4000 in
set_option maxHeartbeats 3200000 in
theorem works_any (w : World) :
    Calls Try.prog 5 #[] w fun e w' => e = .returned (.bool true) ∧ Below w.heap.size w w' := by
  obtain ⟨W, hW⟩ : ∃ W, W = (w.alloc (.cells #[.int .i64 1, .bool false] 42)).alloc (.cells #[.int .i64 3, .bool true] 42) := ⟨_, rfl⟩
  have hbW : Below w.heap.size w W := by subst hW; exact gr_tr (gr_alloc _ _) (gr_alloc _ _)
  have hS : Wk1 w.heap.size W := by subst hW; constructor <;> simp [go_sem]
  obtain ⟨d0, d1, d2, d3⟩ := id hS
  have S := Lib.hid hS; clear hS
  have B := Lib.hid hbW; clear hbW
  have HW := Lib.hid hW; clear hW
  go_enter Try.func5, Try.ntmps5
  go_upto_region 2 with fail
  rw [← HW.out]
  go_upto_region 3 with (go_at_call 8; refine (ex_tagA _).mono ?_; rintro e w2 ⟨rfl, hw⟩; clear d0 d1 d2 d3; replace S := Lib.hid (S.out.below hw); replace B := Lib.hid (gr_tr B.out hw); obtain ⟨d0, d1, d2, d3⟩ := S.out; clear hw)
  go_upto_region 4 with (go_at_call 8; refine (ex_tagB _).mono ?_; rintro e w3 ⟨rfl, hw⟩; clear d0 d1 d2 d3; replace S := Lib.hid (S.out.below hw); replace B := Lib.hid (gr_tr B.out hw); obtain ⟨d0, d1, d2, d3⟩ := S.out; clear hw)
  go_cut [7, 8] (fun u e wx => e = .int .i64 0 ∧ BytesV wx u exm ∧ Below w3.heap.size w3 wx)
  case first =>
    have q0 : ∀ y : KeepT nowhere w3, y.val.cell? ⟨w.heap.size, 0, none⟩ = some (.int .i64 1) := fun y => y.cell d0 id
    have q1 : ∀ y : KeepT nowhere w3, y.val.cell? ⟨w.heap.size, 1, none⟩ = some (.bool false) := fun y => y.cell d1 id
    refine wp_region_planW nowhere [(true, 0), (false, 1), (false, 2), (true, 3), (true, 4), (true, 5), (true, 6), (true, 7)]
      (by kernel_rfl) (by kernel_rfl) (by intro c a d v w h; cases d <;> exact h) ?_
    intro W1 K1 C1
    repeat (refine wpS_firm rfl (fun K hK => ?_); simp only [Keep]; go_simp; refine hK _ ?_; clear hK K)
    refine wpS_chain rfl ?_
    refine make_law bytesOk rfl _ _ rfl W1.heap.size .i64 .i64 9 9 9 rfl rfl rfl rfl (by omega) (by omega) (Nat.le_refl _) ?_
    intro w4 hown hgr
    have V := Lib.hid (made9 _ _ hown)
    have C4 : Below W1.heap.size W1 w4 := (Below.refl _ _).grown hgr (Nat.le_refl _) (by simp)
    have HC4 := Lib.hid C4; clear C4 hown hgr
    go_wp2_with fail
    refine ⟨K1.out.below HC4.out, ?_⟩
    refine wpS_chain rfl ?_
    go_wp2_with (go_at_call 9; refine (ex_gen _ _ V.out).mono ?_; rintro e w5 ⟨u, rfl, hu, hw⟩; have U := Lib.hid hu; have C5 := Lib.hid (gr_tr (gr_tr C1.out HC4.out) hw); have K5 := Lib.hid ((K1.out.below HC4.out).below hw); clear hu hw)
    refine ⟨K5.out, ?_⟩
    repeat (refine wpS_firm rfl (fun K hK => ?_); simp only [Keep]; go_simp; refine hK _ ?_; clear hK K)
    unfold wpS
    go_wp2_with fail
    go_meet
    exact ⟨rfl, U.out, C5.out⟩
  case rest =>
    obtain ⟨rfl, hm, hw⟩ := hcut
    obtain ⟨w4, hx⟩ : ∃ x, x = wc := ⟨_, rfl⟩
    subst hx
    have M := Lib.hid hm; clear hm d0 d1 d2 d3
    replace S := Lib.hid (S.out.below hw)
    replace B := Lib.hid (gr_tr B.out hw)
    clear hw
    go_upto_region 6 with fail
    have hw := gr_alloc w4 (.cells (by8 ex9).toArray 5)
    have N := Lib.hid (nine_lit w4 _ rfl)
    change Code.wp _ _ _ _ (w4.alloc (.cells (by8 ex9).toArray 5))
    generalize w4.alloc (.cells (by8 ex9).toArray 5) = w5 at hw N ⊢
    replace M := Lib.hid (M.out.below hw)
    replace S := Lib.hid (S.out.below hw)
    replace B := Lib.hid (gr_tr B.out hw)
    clear hw
    obtain ⟨d0, d1, d2, d3⟩ := S.out
    go_upto_region 7 with (go_at_call 10; refine (ex_stripA _ _ N.out).mono ?_; rintro e w6 ⟨u1, rfl, hu, hw⟩; have X := Lib.hid hu; replace M := Lib.hid (M.out.below hw); replace N := Lib.hid (N.out.below hw); replace S := Lib.hid (S.out.below hw); replace B := Lib.hid (gr_tr B.out hw); clear hu hw d0 d1 d2 d3; obtain ⟨d0, d1, d2, d3⟩ := S.out)
    go_upto_region 8 with (go_at_call 10; refine (ex_stripB _ _ N.out).mono ?_; rintro e w7 ⟨u2, rfl, hu, hw⟩; have Y := Lib.hid hu; replace X := Lib.hid (X.out.below hw); replace M := Lib.hid (M.out.below hw); replace N := Lib.hid (N.out.below hw); replace S := Lib.hid (S.out.below hw); replace B := Lib.hid (gr_tr B.out hw); clear hu hw d0 d1 d2 d3; obtain ⟨d0, d1, d2, d3⟩ := S.out)
    have hq1 : ∀ w, (binOp .neq 51 (.agg #[.int .u8 0, .int .u8 1, .int .u8 0, .int .u8 2, .int .u8 0, .int .u8 0, .int .u8 0, .int .u8 3]) (.agg #[.int .u8 0, .int .u8 1, .int .u8 0, .int .u8 2, .int .u8 0, .int .u8 0, .int .u8 0, .int .u8 3])).run Try.prog w = .ok (.bool false) w := fun w => by kernel_rfl
    go_upto_region 10 with (first
      | (go_at_call 11; refine (num_any _ _).mono ?_; rintro e w' ⟨rfl, rfl⟩)
      | (go_at_call 13; refine (tuple_any _).mono ?_; rintro e w8 ⟨rfl, hw⟩; replace X := Lib.hid (X.out.below hw); replace Y := Lib.hid (Y.out.below hw); replace M := Lib.hid (M.out.below hw); replace N := Lib.hid (N.out.below hw); replace S := Lib.hid (S.out.below hw); replace B := Lib.hid (gr_tr B.out hw); clear hw d0 d1 d2 d3)
      | (go_at_call 12; refine (ex_enc _).mono ?_; rintro e w9 ⟨rfl, hw⟩; replace X := Lib.hid (X.out.below hw); replace Y := Lib.hid (Y.out.below hw); replace M := Lib.hid (M.out.below hw); replace N := Lib.hid (N.out.below hw); replace S := Lib.hid (S.out.below hw); replace B := Lib.hid (gr_tr B.out hw); clear hw)
      | (go_at_call 14; refine (ex_valid _).mono ?_; rintro e w10 ⟨rfl, hw⟩; replace X := Lib.hid (X.out.below hw); replace Y := Lib.hid (Y.out.below hw); replace M := Lib.hid (M.out.below hw); replace N := Lib.hid (N.out.below hw); replace S := Lib.hid (S.out.below hw); replace B := Lib.hid (gr_tr B.out hw); clear hw; have sx := str_1 X.out; have sy := str_9 Y.out; have sm := str_exm M.out))
    clear sx sy sm X Y
    obtain ⟨d0, d1, d2, d3⟩ := S.out
    go_upto_region 11 with fail
    have hr := heap_alloc_new w10 (.cells #[.bool true, .bool true, .bool true, .int .u16 2, .int .u16 65535] 24)
    have hw := gr_alloc w10 (.cells #[.bool true, .bool true, .bool true, .int .u16 2, .int .u16 65535] 24)
    change Code.wp _ _ _ _ (w10.alloc (.cells #[.bool true, .bool true, .bool true, .int .u16 2, .int .u16 65535] 24))
    generalize w10.alloc (.cells #[.bool true, .bool true, .bool true, .int .u16 2, .int .u16 65535] 24) = wa at hr hw ⊢
    have M0 := M
    have N0 := N
    have S0 := S
    have D := Lib.hid hw
    have B0 := B
    have H := Lib.hid hr
    replace M := Lib.hid (M.out.below hw); replace N := Lib.hid (N.out.below hw); replace S := Lib.hid (S.out.below hw)
    clear hr hw d0 d1 d2 d3
    obtain ⟨d0, d1, d2, d3⟩ := S.out
    go_upto_region 12 with (first
      | (refine wpList_load_row rfl 24 (.tmp 14) rfl w10.heap.size rfl 24 #[.bool true, .bool true, .bool true, .int .u16 2, .int .u16 65535] (0, 0) _ H.out Try.underlying24 rfl (by kernel_rfl) ?_)
      | (go_at_call 15; refine (ex_chkA _ _ M.out).mono ?_; rintro e w11 ⟨rfl, hw⟩; have Z15 := Lib.hid (Nat.ne_of_gt (Nat.lt_of_lt_of_le (block_lt H.out) hw.size)); replace M := Lib.hid (M.out.below hw); replace N := Lib.hid (N.out.below hw); replace S := Lib.hid (S.out.below hw); replace D := Lib.hid (gr_tr D.out hw); replace H := Lib.hid (blk_below H.out hw); clear hw d0 d1 d2 d3; obtain ⟨d0, d1, d2, d3⟩ := S.out)
      | (refine wpList_store_new rfl 56 (.tmp 15) _ rfl #[.int .u8 0, .int .u8 0, .bool false, .bool false] 56 #[.int .u8 0, .int .u8 0, .bool false, .bool false] rfl rfl (by kernel_rfl) rfl (by simp [Value.oneCell']) ?_; intro w12 hr hw; have T15 := Lib.hid hr; replace M := Lib.hid (M.out.below hw); replace N := Lib.hid (N.out.below hw); replace S := Lib.hid (S.out.below hw); replace D := Lib.hid (gr_tr D.out hw); replace H := Lib.hid (blk_below H.out hw); clear hr hw d0 d1 d2 d3; obtain ⟨d0, d1, d2, d3⟩ := S.out))
    go_upto_region 13 with (first
      | (refine wpList_load_row rfl 24 (.tmp 14) rfl w10.heap.size rfl 24 #[.bool true, .bool true, .bool true, .int .u16 2, .int .u16 65535] (0, 0) _ H.out Try.underlying24 rfl (by kernel_rfl) ?_)
      | (go_at_call 15; refine (ex_chkB _ _ M.out).mono ?_; rintro e w13 ⟨rfl, hw⟩; have Z17 := Lib.hid (Nat.ne_of_gt (Nat.lt_of_lt_of_le (block_lt H.out) hw.size)); replace M := Lib.hid (M.out.below hw); replace N := Lib.hid (N.out.below hw); replace S := Lib.hid (S.out.below hw); replace D := Lib.hid (gr_tr D.out hw); replace H := Lib.hid (blk_below H.out hw); replace T15 := Lib.hid (blk_below T15.out hw); clear hw d0 d1 d2 d3; obtain ⟨d0, d1, d2, d3⟩ := S.out)
      | (refine wpList_store_new rfl 56 (.tmp 17) _ rfl #[.int .u8 2, .int .u8 132, .bool false, .bool true] 56 #[.int .u8 0, .int .u8 0, .bool false, .bool false] rfl rfl (by kernel_rfl) rfl (by simp [Value.oneCell']) ?_; intro w14 hr hw; have T17 := Lib.hid hr; replace M := Lib.hid (M.out.below hw); replace N := Lib.hid (N.out.below hw); replace S := Lib.hid (S.out.below hw); replace D := Lib.hid (gr_tr D.out hw); replace H := Lib.hid (blk_below H.out hw); replace T15 := Lib.hid (blk_below T15.out hw); clear hr hw d0 d1 d2 d3; obtain ⟨d0, d1, d2, d3⟩ := S.out))
    have c3 := cell_of_row _ _ 3 _ _ _ H.out
    simp at c3
    have f3 := frozen_of_row _ _ 3 _ _ H.out
    go_upto_region 14 with fail
    obtain ⟨h1, h2, hw⟩ := set_cell H.out 3 (.int .u16 3) D.out (Nat.le_refl _)
    change Code.wp _ _ _ _ (w14.setCell ⟨w10.heap.size, 3, none⟩ (.int .u16 3))
    generalize w14.setCell ⟨w10.heap.size, 3, none⟩ (.int .u16 3) = w15 at h1 h2 hw ⊢
    clear c3 f3 d0 d1 d2 d3 M N S D
    have M := Lib.hid (M0.out.below hw)
    have N := Lib.hid (N0.out.below hw)
    have S := Lib.hid (S0.out.below hw)
    have D := Lib.hid hw
    have g15 : w11.heap.size ≠ w10.heap.size := Z15.out
    have g17 : w13.heap.size ≠ w10.heap.size := Z17.out
    replace T15 := Lib.hid ((h2 _ g15).trans T15.out)
    replace T17 := Lib.hid ((h2 _ g17).trans T17.out)
    replace H : Hid (w15.heap[w10.heap.size]? = some (.cells #[.bool true, .bool true, .bool true, .int .u16 3, .int .u16 65535] 24 (0, 0))) := Lib.hid h1
    clear h1 h2 hw g15 g17 M0 N0 S0
    obtain ⟨d0, d1, d2, d3⟩ := S.out
    go_upto_region 15 with (first
      | (refine wpList_load_row rfl 24 (.tmp 14) rfl w10.heap.size rfl 24 #[.bool true, .bool true, .bool true, .int .u16 3, .int .u16 65535] (0, 0) _ H.out Try.underlying24 rfl (by kernel_rfl) ?_)
      | (go_at_call 15; refine (ex_chkC _ _ M.out).mono ?_; rintro e w16 ⟨rfl, hw⟩; replace M := Lib.hid (M.out.below hw); replace N := Lib.hid (N.out.below hw); replace S := Lib.hid (S.out.below hw); replace D := Lib.hid (gr_tr D.out hw); replace H := Lib.hid (blk_below H.out hw); replace T15 := Lib.hid (blk_below T15.out hw); replace T17 := Lib.hid (blk_below T17.out hw); clear hw d0 d1 d2 d3; obtain ⟨d0, d1, d2, d3⟩ := S.out)
      | (refine wpList_store_new rfl 56 (.tmp 19) _ rfl #[.int .u8 2, .int .u8 131, .bool false, .bool true] 56 #[.int .u8 0, .int .u8 0, .bool false, .bool false] rfl rfl (by kernel_rfl) rfl (by simp [Value.oneCell']) ?_; intro w17 hr hw; have T19 := Lib.hid hr; replace M := Lib.hid (M.out.below hw); replace N := Lib.hid (N.out.below hw); replace S := Lib.hid (S.out.below hw); replace D := Lib.hid (gr_tr D.out hw); replace H := Lib.hid (blk_below H.out hw); replace T15 := Lib.hid (blk_below T15.out hw); replace T17 := Lib.hid (blk_below T17.out hw); clear hr hw d0 d1 d2 d3; obtain ⟨d0, d1, d2, d3⟩ := S.out))
    go_cut [21, 22] (fun p e wx => e = .int .i64 4 ∧ Below w17.heap.size w17 wx)
    case first =>
      have q0 : ∀ y : KeepT nowhere w17, y.val.cell? ⟨w.heap.size, 0, none⟩ = some (.int .i64 1) := fun y => y.cell d0 id
      have q1 : ∀ y : KeepT nowhere w17, y.val.cell? ⟨w.heap.size, 1, none⟩ = some (.bool false) := fun y => y.cell d1 id
      refine wp_region_planT nowhere (.firm 0 (.firm 1 (.firm 2 (.two 3 (.firm 4 (.firm 5 (.firm 6 (.one 7 (.one 8 (.firm 9 .done)))))) 7 (.one 3 (.firm 4 (.firm 5 (.firm 6 (.one 8 (.firm 9 .done))))))))))
        (by kernel_rfl) (by kernel_rfl) (by intro c a d v w h; cases d <;> exact h) ?_
      intro W1 K1 C1
      have V := Lib.hid ((N.out.below C1.out).front 7 (by decide))
      repeat (refine wpT_firm rfl (fun K hK => ?_); simp only [Keep]; go_simp; refine hK _ ?_; clear hK K)
      refine wpT_two rfl rfl ?_ ?_
      · go_wp2_with (go_at_call 16; refine (ex_read _ _ V.out).mono ?_; rintro e w18 ⟨rfl, hw⟩; have K2 := Lib.hid (K1.out.below hw); have C2 := Lib.hid (gr_tr C1.out hw); clear hw)
        refine ⟨K2.out, ?_⟩
        repeat (refine wpT_firm rfl (fun K hK => ?_); simp only [Keep]; go_simp; refine hK _ ?_; clear hK K)
        refine wpT_chain rfl ?_
        go_wp2_with fail
        refine ⟨K2.out.alloc _, ?_⟩
        refine wpT_chain rfl ?_
        refine wpList_store_new rfl 40 (.tmp 21) (.tmp 132) rfl #[.int .u16 0, .int .u16 0, .int .u32 0] 40 #[.int .u16 0, .int .u16 0, .int .u32 0] rfl rfl (by kernel_rfl) rfl (by simp [Value.oneCell']) ?_
        intro w19 hr hw
        have K3 := Lib.hid (K2.out.below hw)
        have C3 := Lib.hid (gr_tr C2.out hw)
        clear hr hw
        go_wp2_with fail
        refine ⟨K3.out, ?_⟩
        repeat (refine wpT_firm rfl (fun K hK => ?_); simp only [Keep]; go_simp; refine hK _ ?_; clear hK K)
        unfold wpT
        go_wp2_with fail
        go_meet
        exact ⟨rfl, C3.out⟩
      · go_wp2_with fail
        refine ⟨K1.out.alloc _, ?_⟩
        refine wpT_chain rfl ?_
        have hz := heap_alloc_new W1 (.cells #[.int .u16 0, .int .u16 0, .int .u32 0] 40)
        go_wp2_with (go_at_call 16; refine (ex_read _ _ (V.out.below (gr_alloc _ _))).mono ?_; rintro e w18 ⟨rfl, hw⟩; have HZ := Lib.hid (blk_below hz hw); have K2 := Lib.hid ((K1.out.alloc _).below hw); have C2 := Lib.hid (gr_tr C1.out (gr_tr (gr_alloc _ _) hw)); clear hw hz)
        refine ⟨K2.out, ?_⟩
        repeat (refine wpT_firm rfl (fun K hK => ?_); simp only [Keep]; go_simp; refine hK _ ?_; clear hK K)
        refine wpT_chain rfl ?_
        refine wpList_store_row rfl 40 (.tmp 21) (.tmp 132) rfl W1.heap.size #[.int .u16 0, .int .u16 0, .int .u32 0] rfl rfl 40 #[.int .u16 0, .int .u16 0, .int .u32 0] HZ.out (by kernel_rfl) rfl (by simp [Value.oneCell']) ?_
        have hb := below_setRow C2.out C1.out.size #[.int .u16 0, .int .u16 0, .int .u32 0]
        have K3 := Lib.hid (K2.out.base (below_setRow (Below.refl _ _) C1.out.size #[.int .u16 0, .int .u16 0, .int .u32 0]))
        generalize w18.setRow W1.heap.size #[.int .u16 0, .int .u16 0, .int .u32 0] = w19 at hb K3 ⊢
        have C3 := Lib.hid hb; clear hb
        go_wp2_with fail
        refine ⟨K3.out, ?_⟩
        repeat (refine wpT_firm rfl (fun K hK => ?_); simp only [Keep]; go_simp; refine hK _ ?_; clear hK K)
        unfold wpT
        go_wp2_with fail
        go_meet
        exact ⟨rfl, C3.out⟩
    case rest =>
      obtain ⟨rfl, hw⟩ := hcut
      obtain ⟨w20, hx⟩ : ∃ x, x = wc := ⟨_, rfl⟩
      subst hx
      replace M := Lib.hid (M.out.below hw); replace N := Lib.hid (N.out.below hw); replace S := Lib.hid (S.out.below hw); replace D := Lib.hid (gr_tr D.out hw); replace H := Lib.hid (blk_below H.out hw); replace T15 := Lib.hid (blk_below T15.out hw); replace T17 := Lib.hid (blk_below T17.out hw); replace T19 := Lib.hid (blk_below T19.out hw)
      clear hw d0 d1 d2 d3
      go_upto_region 16 with fail
      go_cut [23, 24] (fun p e wx => e = .int .i64 0 ∧ ∃ g, p = .pointer (some ⟨g, 0, none⟩) ∧ Hid (wx.heap[g]? = some (.cells #[.int .u8 0, .int .u8 0, .bool false, .bool false] 56 (0, 0))) ∧ Below w20.heap.size w20 wx)
      case first =>
        have r0 : w20.cell? ⟨w10.heap.size, 0, none⟩ = some (.bool true) := (cell_of_row _ _ 0 _ _ _ H.out).trans rfl
        have r1 : w20.cell? ⟨w10.heap.size, 1, none⟩ = some (.bool true) := (cell_of_row _ _ 1 _ _ _ H.out).trans rfl
        have r2 : w20.cell? ⟨w10.heap.size, 2, none⟩ = some (.bool true) := (cell_of_row _ _ 2 _ _ _ H.out).trans rfl
        have r3 : w20.cell? ⟨w10.heap.size, 3, none⟩ = some (.int .u16 3) := (cell_of_row _ _ 3 _ _ _ H.out).trans rfl
        have r4 : w20.cell? ⟨w10.heap.size, 4, none⟩ = some (.int .u16 65535) := (cell_of_row _ _ 4 _ _ _ H.out).trans rfl
        have q0 : ∀ y : KeepT nowhere w20, y.val.cell? ⟨w10.heap.size, 0, none⟩ = some (.bool true) := fun y => y.cell r0 id
        have q1 : ∀ y : KeepT nowhere w20, y.val.cell? ⟨w10.heap.size, 1, none⟩ = some (.bool true) := fun y => y.cell r1 id
        have q2 : ∀ y : KeepT nowhere w20, y.val.cell? ⟨w10.heap.size, 2, none⟩ = some (.bool true) := fun y => y.cell r2 id
        have q3 : ∀ y : KeepT nowhere w20, y.val.cell? ⟨w10.heap.size, 3, none⟩ = some (.int .u16 3) := fun y => y.cell r3 id
        have q4 : ∀ y : KeepT nowhere w20, y.val.cell? ⟨w10.heap.size, 4, none⟩ = some (.int .u16 65535) := fun y => y.cell r4 id
        clear r0 r1 r2 r3 r4
        refine wp_region_planT nowhere (.firm 0 (.firm 1 (.firm 2 (.firm 3 (.two 4 (.firm 5 (.firm 6 (.firm 7 (.one 8 (.one 9 (.firm 10 .done)))))) 8 (.one 4 (.firm 5 (.firm 6 (.firm 7 (.one 9 (.firm 10 .done)))))))))))
          (by kernel_rfl) (by kernel_rfl) (by intro c a d v w h; cases d <;> exact h) ?_
        intro W1 K1 C1
        have V := Lib.hid ((N.out.below C1.out).front 1 (by decide))
        repeat (refine wpT_firm rfl (fun K hK => ?_); simp only [Keep]; go_simp; refine hK _ ?_; clear hK K)
        refine wpT_two rfl rfl ?_ ?_
        · go_wp2_with (go_at_call 15; refine (ex_chkD _ _ V.out).mono ?_; rintro e w18 ⟨rfl, hw⟩; have K2 := Lib.hid (K1.out.below hw); have C2 := Lib.hid (gr_tr C1.out hw); clear hw)
          refine ⟨K2.out, ?_⟩
          repeat (refine wpT_firm rfl (fun K hK => ?_); simp only [Keep]; go_simp; refine hK _ ?_; clear hK K)
          refine wpT_chain rfl ?_
          go_wp2_with fail
          refine ⟨K2.out.alloc _, ?_⟩
          refine wpT_chain rfl ?_
          refine wpList_store_new rfl 56 (.tmp 23) (.tmp 140) rfl #[.int .u8 0, .int .u8 0, .bool false, .bool false] 56 #[.int .u8 0, .int .u8 0, .bool false, .bool false] rfl rfl (by kernel_rfl) rfl (by simp [Value.oneCell']) ?_
          intro w19 hr hw
          have K3 := Lib.hid (K2.out.below hw)
          have C3 := Lib.hid (gr_tr C2.out hw)
          have R3 := Lib.hid hr
          clear hr hw
          go_wp2_with fail
          refine ⟨K3.out, ?_⟩
          repeat (refine wpT_firm rfl (fun K hK => ?_); simp only [Keep]; go_simp; refine hK _ ?_; clear hK K)
          unfold wpT
          go_wp2_with fail
          go_meet
          exact ⟨rfl, _, rfl, R3, C3.out⟩
        · go_wp2_with fail
          refine ⟨K1.out.alloc _, ?_⟩
          refine wpT_chain rfl ?_
          have hz := heap_alloc_new W1 (.cells #[.int .u8 0, .int .u8 0, .bool false, .bool false] 56)
          go_wp2_with (go_at_call 15; refine (ex_chkD _ _ (V.out.below (gr_alloc _ _))).mono ?_; rintro e w18 ⟨rfl, hw⟩; have HZ := Lib.hid (blk_below hz hw); have K2 := Lib.hid ((K1.out.alloc _).below hw); have C2 := Lib.hid (gr_tr C1.out (gr_tr (gr_alloc _ _) hw)); clear hw hz)
          refine ⟨K2.out, ?_⟩
          repeat (refine wpT_firm rfl (fun K hK => ?_); simp only [Keep]; go_simp; refine hK _ ?_; clear hK K)
          refine wpT_chain rfl ?_
          refine wpList_store_row rfl 56 (.tmp 23) (.tmp 140) rfl W1.heap.size #[.int .u8 0, .int .u8 0, .bool false, .bool false] rfl rfl 56 #[.int .u8 0, .int .u8 0, .bool false, .bool false] HZ.out (by kernel_rfl) rfl (by simp [Value.oneCell']) ?_
          have R3 := Lib.hid (setRow_heap _ _ _ #[.int .u8 0, .int .u8 0, .bool false, .bool false] _ _ HZ.out)
          have hb := below_setRow C2.out C1.out.size #[.int .u8 0, .int .u8 0, .bool false, .bool false]
          have K3 := Lib.hid (K2.out.base (below_setRow (Below.refl _ _) C1.out.size #[.int .u8 0, .int .u8 0, .bool false, .bool false]))
          generalize w18.setRow W1.heap.size #[.int .u8 0, .int .u8 0, .bool false, .bool false] = w19 at hb K3 R3 ⊢
          have C3 := Lib.hid hb; clear hb
          go_wp2_with fail
          refine ⟨K3.out, ?_⟩
          repeat (refine wpT_firm rfl (fun K hK => ?_); simp only [Keep]; go_simp; refine hK _ ?_; clear hK K)
          unfold wpT
          go_wp2_with fail
          go_meet
          exact ⟨rfl, _, rfl, R3, C3.out⟩
      case rest =>
        obtain ⟨rfl, g, rfl, T23, hw⟩ := hcut
        obtain ⟨w21, hx⟩ : ∃ x, x = wc := ⟨_, rfl⟩
        subst hx
        replace B := Lib.hid ((B0.out.trans (D.out.mono B0.out.size)).trans (hw.mono (Nat.le_trans B0.out.size D.out.size)))
        replace T15 := Lib.hid (blk_below T15.out hw); replace T17 := Lib.hid (blk_below T17.out hw); replace T19 := Lib.hid (blk_below T19.out hw)
        clear hw
        go_wp2_with (first
          | (refine wpList_unguard (by rfl) (wpList_load_row rfl 56 (.tmp 15) rfl w11.heap.size rfl 56 #[.int .u8 0, .int .u8 0, .bool false, .bool false] (0, 0) _ T15.out Try.underlying56 rfl (by kernel_rfl) ?_))
          | (refine wpList_unguard (by rfl) (wpList_load_row rfl 56 (.tmp 17) rfl w13.heap.size rfl 56 #[.int .u8 2, .int .u8 132, .bool false, .bool true] (0, 0) _ T17.out Try.underlying56 rfl (by kernel_rfl) ?_))
          | (refine wpList_unguard (by rfl) (wpList_load_row rfl 56 (.tmp 19) rfl w16.heap.size rfl 56 #[.int .u8 2, .int .u8 131, .bool false, .bool true] (0, 0) _ T19.out Try.underlying56 rfl (by kernel_rfl) ?_))
          | (refine wpList_unguard (by rfl) (wpList_load_row rfl 56 (.tmp 23) rfl g rfl 56 #[.int .u8 0, .int .u8 0, .bool false, .bool false] (0, 0) _ T23.out Try.underlying56 rfl (by kernel_rfl) ?_))
          | (go_at_call 11; refine (num_any _ _).mono ?_; rintro e w' ⟨rfl, rfl⟩)
          | (go_at_call 17; (with_reducible refine (code_zero _).mono ?_); rintro e w22 ⟨rfl, hw⟩; replace B := Lib.hid (gr_tr B.out hw); replace T15 := Lib.hid (blk_below T15.out hw); replace T17 := Lib.hid (blk_below T17.out hw); replace T19 := Lib.hid (blk_below T19.out hw); replace T23 := Lib.hid (blk_below T23.out hw); clear hw)
          | (go_at_call 17; (with_reducible refine (code_some _ (by omega) _).mono ?_); rintro e w22 ⟨rfl, hw⟩; replace B := Lib.hid (gr_tr B.out hw); replace T15 := Lib.hid (blk_below T15.out hw); replace T17 := Lib.hid (blk_below T17.out hw); replace T19 := Lib.hid (blk_below T19.out hw); replace T23 := Lib.hid (blk_below T23.out hw); clear hw))
        go_ret
        exact ⟨rfl, B.out⟩
end Go.Proofs.Ytpobkgkjfebhgaa
