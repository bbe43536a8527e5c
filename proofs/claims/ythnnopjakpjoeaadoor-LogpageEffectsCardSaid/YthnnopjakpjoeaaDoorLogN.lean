/- Notices: DecodeNotice, and both of the reference. -/
import Derived.Test.YthnnopjakpjoeaaDoorLogD
import Derived.Test.YthnnopjakpjoeaaDoorWireK
import Derived.Test.YthnnopjakpjoeaaDoorGuarded
namespace Go.Proofs.YthnnopjakpjoeaaDoor
open Go.RowKit Lg
set_option linter.unusedVariables false
set_option linter.unusedSimpArgs false
theorem eqB_at (v u : Value) (l m : List (BitVec 8)) (b : Bool) (w : World) (hv : BytesV w v l) (hu : BytesV w u m) (hb : (l == m) = b) :
    Calls Tryd.prog 128 #[v, u] w fun e w' => e = .returned (.bool b) ∧ w = w' := by
  subst hb
  have h1 := run_string hv
  have h2 := run_string hu
  have h3 := strOf_beq l m
  obtain ⟨a, c, rfl, _, _, _, _⟩ := hv
  obtain ⟨a', c', rfl, _, _, _, _⟩ := hu
  go_enter Tryd.func128, Tryd.ntmps128
  go_wp2
  go_ret
  exact ⟨rfl, rfl⟩
namespace Lg
theorem num_drop (l : List (BitVec 8)) (k n : Nat) : num (l.drop k) 0 n = num l k n := by unfold num cut; rw [List.drop_zero]
end Lg
theorem chg_newer {B C : Nat → Prop} {a b c : World} (h : Chg B a b) (k : Chg C b c) (hC : ∀ g, C g → a.heap.size ≤ g) : Chg B a c :=
  ⟨k.os.trans h.os, k.tape.trans h.tape, k.output.trans h.output, Nat.le_trans h.size k.size, fun g hg hn => (k.block g (Nat.lt_of_lt_of_le hg h.size) (fun hc => by have := hC g hc; omega)).trans (h.block g hg hn)⟩
/-- 'next' behind k bytes. -/
theorem next_at {d : Nat} (p : Nat) (v : Value) (l : List (BitVec 8)) (j q : Nat) (m : Int) (k : Nat) (x : BitVec 64) (w : World) (hm : m = k) (hp : RdAt w 287 p d v (l.drop j) q) (h1 : 1 ≤ k) (h8 : k ≤ 8) (hk : j + k ≤ l.length) (hx : num l j k = x) :
    Calls Tryd.prog 104 #[.pointer (some ⟨p, 0, none⟩), .int .i64 m] w fun e w' => e = .returned (.int .u64 (uv x)) ∧ (∃ v', RdAt w' 287 p d v' (l.drop (j + k)) (q + k)) ∧ Chg (fun b => b = p) w w' := by
  rw [← List.drop_drop]
  exact next_ok p v (l.drop j) q m k x w hm hp h1 h8 (by rw [List.length_drop]; omega) (by rw [num_drop]; exact hx)
theorem skip_at {d : Nat} (p : Nat) (v : Value) (l : List (BitVec 8)) (j q : Nat) (m : Int) (k : Nat) (w : World) (hm : m = k) (hp : RdAt w 287 p d v (l.drop j) q) (hk : j + k ≤ l.length) :
    Calls Tryd.prog 111 #[.pointer (some ⟨p, 0, none⟩), .int .i64 m] w fun e w' => e = .returned (.int .i64 0) ∧ (∃ v', RdAt w' 287 p d v' (l.drop (j + k)) (q + k)) ∧ Chg (fun b => b = p) w w' := by
  subst hm
  rw [← List.drop_drop]
  exact Skip_ok _ p v (l.drop j) q k w hp (by rw [List.length_drop]; omega)
set_option maxHeartbeats 1600000 in
set_option maxRecDepth 20000 in
theorem readNo_at {d : Nat} (p : Nat) (v : Value) (l : List (BitVec 8)) (w : World) (hp : RdAt w 287 p d v l 0) (hl : l.length = 64) :
    Calls Tryd.prog 117 #[.pointer (some ⟨p, 0, none⟩)] w fun e w' => e = .returned (.agg (No.cells (noRd l)).toArray) ∧ Chg (fun b => b = p) w w' := by
  obtain ⟨x0, h0⟩ : ∃ x, num l 0 8 = x := ⟨_, rfl⟩
  obtain ⟨x1, h1⟩ : ∃ x, num l 8 1 = x := ⟨_, rfl⟩
  obtain ⟨x2, h2⟩ : ∃ x, num l 9 1 = x := ⟨_, rfl⟩
  obtain ⟨x3, h3⟩ : ∃ x, num l 12 4 = x := ⟨_, rfl⟩
  rw [show (No.cells (noRd l)).toArray = #[.int .u64 (uv x0), .int .u8 (uv (x1.setWidth 8)), .int .u8 (uv (x2.setWidth 8)), .int .u32 (uv (x3.setWidth 32))] by unfold noRd; rw [h0, h1, h2, h3]; rfl]
  have H0 := Lib.hid h0; have H1 := Lib.hid h1; have H2 := Lib.hid h2; have H3 := Lib.hid h3; have HL := Lib.hid hl
  have PLT := Lib.hid hp.lt
  obtain ⟨W, hW⟩ : ∃ W, W = w.alloc (.cells #[.int .u64 0, .int .u8 0, .int .u8 0, .int .u32 0] 113) := ⟨_, rfl⟩
  have D := Lib.hid (show Below w.heap.size w W by rw [hW]; exact gr_alloc w _)
  have X := Lib.hid (show W.heap[w.heap.size]? = some (.cells #[.int .u64 0, .int .u8 0, .int .u8 0, .int .u32 0] 113 (0, 0)) by rw [hW]; exact heap_alloc_new w _)
  have R := Lib.hid (show RdAt W 287 p d v (l.drop 0) 0 by rw [List.drop_zero]; exact hp.below D.out)
  have HW := Lib.hid hW
  clear h0 h1 h2 h3 hl hp hW
  go_enter Tryd.func117, Tryd.ntmps117
  go_upto_region 1 with (fail)
  rw [← HW.out]
  have C0 := Lib.hid (Chg.of_below (B := fun b => b = p) D.out)
  go_upto_region 2 with (first
    | (go_at_call 104; go_loud ((with_reducible refine (next_at p v l 0 0 8 8 x0 W rfl R.out (by decide) (by decide) (by rw [HL.out]; decide) H0.out).mono ?_); rintro r w1 ⟨rfl, ⟨v1, hr⟩, hc⟩; have R1 := Lib.hid hr; have C1 := Lib.hid (C0.out.trans hc); have X1 := Lib.hid (hc.blk X.out (by have := PLT.out; omega)); clear hr hc))
    | (go_at_call 104; go_loud ((with_reducible refine (next_at p v1 l 8 8 1 1 x1 w1 rfl R1.out (by decide) (by decide) (by rw [HL.out]; decide) H1.out).mono ?_); rintro r w2 ⟨rfl, ⟨v2, hr⟩, hc⟩; have R2 := Lib.hid hr; have C2 := Lib.hid (C1.out.trans hc); have X2 := Lib.hid (hc.blk X1.out (by have := PLT.out; omega)); clear hr hc))
    | (go_at_call 104; go_loud ((with_reducible refine (next_at p v2 l 9 9 1 1 x2 w2 rfl R2.out (by decide) (by decide) (by rw [HL.out]; decide) H2.out).mono ?_); rintro r w3 ⟨rfl, ⟨v3, hr⟩, hc⟩; have R3 := Lib.hid hr; have C3 := Lib.hid (C2.out.trans hc); have X3 := Lib.hid (hc.blk X2.out (by have := PLT.out; omega)); clear hr hc))
    | (refine wpList_store_new rfl 113 (.tmp 3) (.tmp 12) rfl #[.int .u64 (uv x0), .int .u8 (uv (x1.setWidth 8)), .int .u8 (uv (x2.setWidth 8)), .int .u32 0] 113 _ rfl rfl (by kernel_rfl) rfl (by simp [Value.oneCell']) ?_; intro w4 hh hb; have Y4 := Lib.hid hh; have R4 := Lib.hid (R3.out.below hb); have C4 := Lib.hid (C3.out.trans (Chg.of_below (B := fun b => b = p) hb)); have X4 := Lib.hid (blk_below X3.out hb); clear hh hb))
  have NE := Lib.hid (show ¬ w3.heap.size = p ∧ ¬ w.heap.size = p ∧ ¬ w.heap.size = w3.heap.size by
    have h1 := PLT.out; have h2 := C3.out.size; have h3 := (Array.getElem?_eq_some_iff.1 X3.out).1; omega)
  go_upto_region 3 with (go_at_call 111; go_loud (refine (skip_at p v3 l 10 10 2 2 w4 rfl R4.out (by rw [HL.out]; decide)).mono ?_; rintro r w5 ⟨rfl, ⟨v5, hr⟩, hc⟩; have R5 := Lib.hid hr; have C5 := Lib.hid (C4.out.trans hc); have X5 := Lib.hid (hc.blk X4.out NE.out.2.1); have Y5 := Lib.hid (hc.blk Y4.out NE.out.1); clear hr hc))
  go_upto_region 4 with (first
    | (go_at_call 104; go_loud ((with_reducible refine (next_at p v5 l 12 12 4 4 x3 w5 rfl R5.out (by decide) (by decide) (by rw [HL.out]; decide) H3.out).mono ?_); rintro r w6 ⟨rfl, ⟨v6, hr⟩, hc⟩; have C6 := Lib.hid (C5.out.trans hc); have X6 := Lib.hid (hc.blk X5.out NE.out.2.1); have Y6 := Lib.hid (hc.blk Y5.out NE.out.1); have y3 : w6.cell? ⟨w3.heap.size, 3, none⟩ = some (.int .u32 0) := (cell_of_row _ _ 3 _ _ _ Y6.out).trans rfl; have fz := frozen_of_row _ _ 3 _ _ Y6.out; clear hr hc)))
  have hlt3 : w.heap.size ≤ w3.heap.size := by have := C3.out.size; omega
  obtain ⟨w7, hw7⟩ : ∃ w7, w7 = w6.setCell ⟨w3.heap.size, 3, none⟩ (.int .u32 (uv (x3.setWidth 32))) := ⟨_, rfl⟩
  have c7 : Chg (fun b => b = w3.heap.size) w6 w7 := by rw [hw7]; exact Chg.setCell (B := fun b => b = w3.heap.size) (p := ⟨w3.heap.size, 3, none⟩) _ rfl _
  have Y7 := Lib.hid (show w7.heap[w3.heap.size]? = some (.cells #[.int .u64 (uv x0), .int .u8 (uv (x1.setWidth 8)), .int .u8 (uv (x2.setWidth 8)), .int .u32 (uv (x3.setWidth 32))] 113 (0, 0)) by rw [hw7]; exact heap_setCell_same _ _ _ _ _ _ Y6.out)
  have X7 := Lib.hid (c7.blk X6.out NE.out.2.2)
  have C7 := Lib.hid (chg_newer C6.out c7 (fun g hg => by subst hg; exact hlt3))
  rw [← hw7]
  clear hw7 c7 y3 fz
  go_wp2_with (first
    | (refine wpList_load_row rfl 113 (.tmp 3) rfl w3.heap.size rfl 113 #[.int .u64 (uv x0), .int .u8 (uv (x1.setWidth 8)), .int .u8 (uv (x2.setWidth 8)), .int .u32 (uv (x3.setWidth 32))] (0, 0) _ Y7.out Tryd.underlying113 rfl (by kernel_rfl) ?_)
    | (refine wpList_store_row rfl 113 (.tmp 2) (.tmp 19) rfl w.heap.size #[.int .u64 (uv x0), .int .u8 (uv (x1.setWidth 8)), .int .u8 (uv (x2.setWidth 8)), .int .u32 (uv (x3.setWidth 32))] rfl rfl 113 _ X7.out (by kernel_rfl) rfl (by simp [Value.oneCell']) ?_))
  exact bodyPost_ret (results_cell_row rfl _ _ w.heap.size 113 _ (0, 0) _ rfl (setRow_heap _ _ _ _ _ _ X7.out) Tryd.underlying113 rfl (by kernel_rfl)) rfl ⟨rfl, chg_newer C7.out (Chg.setRow (B := fun b => b = w.heap.size) w7 rfl _) (fun g hg => by subst hg; exact Nat.le_refl _)⟩
namespace Lg
def noOkB (l : List (BitVec 8)) : Bool := noOk (noRd l) && (noB (noRd l) == l)
end Lg
set_option maxHeartbeats 3200000 in
set_option maxRecDepth 20000 in
theorem decoded_No (l : List (BitVec 8)) (bv : Value) (w : World) (y : No) (e : Int) (hb : BytesV w bv l) (hl : l.length ≤ 140737488355328) (hd : decP 64 noRd noOkB noZ l = (y, e)) :
    Calls Tryd.prog 116 #[bv, .int .i64 64, .func (.func 117) #[] #[], .func (.func 51) #[] #[]] w fun r w' => r = .returned (.tuple #[.agg (No.cells y).toArray, .int .i64 e]) ∧ Below w.heap.size w w' := by
  obtain ⟨av, cv, rfl, hv0, hv1, hv2, hv3⟩ := id hb
  have hm : l.length ≤ 9223372036854775807 := by omega
  have BV := Lib.hid hb
  have HLL := Lib.hid hl
  obtain ⟨V, hV⟩ : ∃ V, V = w.alloc (.cells #[.int .u64 0, .int .u8 0, .int .u8 0, .int .u32 0] 113) := ⟨_, rfl⟩
  have DV := Lib.hid (show Below w.heap.size w V by rw [hV]; exact gr_alloc w _)
  have XV := Lib.hid (show V.heap[w.heap.size]? = some (.cells #[.int .u64 0, .int .u8 0, .int .u8 0, .int .u32 0] 113 (0, 0)) by rw [hV]; exact heap_alloc_new w _)
  have VS := Lib.hid (show w.heap.size < V.heap.size by rw [hV]; simp)
  have HV := Lib.hid hV
  have ZS := Lib.hid (show (No.cells noZ).toArray = #[.int .u64 0, .int .u8 0, .int .u8 0, .int .u32 0] from rfl)
  clear hb hv0 hv1 hv2 hv3 hV hl
  unfold decP at hd
  by_cases p1 : l.length < 64
  · rw [if_pos p1] at hd
    cases hd
    rw [ZS.out]
    have d1 : decide ((l.length : Int) < 64) = true := decide_eq_true (by omega)
    have d1b : decide (l.length < 64) = true := decide_eq_true (by omega)
    clear p1
    go_enter Tryd.func116, Tryd.ntmps116
    go_upto_region 1 with (fail)
    rw [← HV.out]
    go_wp2_with (first
      | (refine wpList_load_row rfl 113 (.tmp 8) rfl w.heap.size rfl 113 #[.int .u64 0, .int .u8 0, .int .u8 0, .int .u32 0] (0, 0) _ XV.out Tryd.underlying113 rfl (by kernel_rfl) ?_)
      | (refine wpList_store_row rfl 113 (.tmp 8) (.tmp 18) rfl w.heap.size #[.int .u64 0, .int .u8 0, .int .u8 0, .int .u32 0] rfl rfl 113 _ XV.out (by kernel_rfl) rfl (by simp [Value.oneCell']) ?_))
    exact bodyPost_ret (results_row_tmp rfl _ _ w.heap.size 113 #[.int .u64 0, .int .u8 0, .int .u8 0, .int .u32 0] (0, 0) _ rfl (setRow_heap _ _ _ _ _ _ XV.out) Tryd.underlying113 rfl (by kernel_rfl)) rfl ⟨rfl, below_setRow DV.out (Nat.le_refl _) _⟩
  rw [if_neg p1] at hd
  have d1 : decide ((l.length : Int) < 64) = false := decide_eq_false (by omega)
  have d1b : decide (l.length < 64) = false := decide_eq_false (by omega)
  by_cases p2 : 64 < l.length
  · rw [if_pos p2] at hd
    cases hd
    rw [ZS.out]
    have d2 : decide (64 < (l.length : Int)) = true := decide_eq_true (by omega)
    have d2b : decide (64 < l.length) = true := decide_eq_true (by omega)
    clear p1 p2
    go_enter Tryd.func116, Tryd.ntmps116
    go_upto_region 1 with (fail)
    rw [← HV.out]
    go_wp2_with (first
      | (refine wpList_load_row rfl 113 (.tmp 8) rfl w.heap.size rfl 113 #[.int .u64 0, .int .u8 0, .int .u8 0, .int .u32 0] (0, 0) _ XV.out Tryd.underlying113 rfl (by kernel_rfl) ?_)
      | (refine wpList_store_row rfl 113 (.tmp 8) (.tmp 24) rfl w.heap.size #[.int .u64 0, .int .u8 0, .int .u8 0, .int .u32 0] rfl rfl 113 _ XV.out (by kernel_rfl) rfl (by simp [Value.oneCell']) ?_))
    exact bodyPost_ret (results_row_tmp rfl _ _ w.heap.size 113 #[.int .u64 0, .int .u8 0, .int .u8 0, .int .u32 0] (0, 0) _ rfl (setRow_heap _ _ _ _ _ _ XV.out) Tryd.underlying113 rfl (by kernel_rfl)) rfl ⟨rfl, below_setRow DV.out (Nat.le_refl _) _⟩
  rw [if_neg p2] at hd
  have d2 : decide (64 < (l.length : Int)) = false := decide_eq_false (by omega)
  have d2b : decide (64 < l.length) = false := decide_eq_false (by omega)
  have HL := Lib.hid (show l.length = 64 by omega)
  have HD := Lib.hid hd
  clear p1 p2 hd
  obtain ⟨x, hx⟩ : ∃ x, noRd l = x := ⟨_, rfl⟩
  have HX := Lib.hid hx
  obtain ⟨cx, hcx⟩ : ∃ c, (No.cells x).toArray = c := ⟨_, rfl⟩
  have HCX := Lib.hid hcx
  have SZX := Lib.hid (show cx.size = 4 by rw [← hcx]; rfl)
  have ONX := Lib.hid (show cx.all (·.oneCell') = true by rw [← hcx]; simp [No.cells, Value.oneCell'])
  clear hx hcx
  obtain ⟨bo, hbo⟩ : ∃ b, noOk x = b := ⟨_, rfl⟩
  have HO := Lib.hid hbo; clear hbo
  go_enter Tryd.func116, Tryd.ntmps116
  go_upto_region 1 with (fail)
  rw [← HV.out]
  go_upto_region 6 with (first
    | (go_at_call 149; go_loud (refine (NewReader_any _ l _ (BV.out.below DV.out) HLL.out).mono ?_; rintro r w1 ⟨p, v, rfl, hp, hr, hw⟩; have HP := Lib.hid hp; have R := Lib.hid hr; have D1 := Lib.hid (gr_tr DV.out hw); have DW := Lib.hid hw; clear hp hr hw))
    | (go_at_call 117; go_loud (refine (readNo_at p v l _ R.out HL.out).mono ?_; rw [HX.out, HCX.out]; rintro r w2 ⟨rfl, hc⟩; have D2 := Lib.hid (hc.fresh D1.out (fun k hk => by have h1 := HP.out; have h2 := VS.out; subst hk; omega)); have X2 := Lib.hid (hc.blk (blk_below XV.out DW.out) (fun hk => by have h1 := HP.out; have h2 := VS.out; subst hk; omega)); clear hc))
    | (refine wpList_store_new rfl 113 (.tmp 10) (.tmp 28) rfl cx 113 _ rfl rfl (by rw [SZX.out]; kernel_rfl) (by rw [SZX.out]; rfl) ONX.out ?_; intro w3 hh hw; have Y3 := Lib.hid hh; have D3 := Lib.hid (gr_tr D2.out hw); have X3 := Lib.hid (blk_below X2.out hw); clear hh hw))
  clear d1 d1b d2 d2b
  have B3 := Lib.hid (BV.out.below D3.out)
  cases bo
  · have ENC := fun w => EncNo_at x 2 [] w (by unfold noE; rw [HO.out]; rfl) (by unfold noR; rw [HO.out]; rfl)
    rw [HCX.out] at ENC
    go_wp2_with (first
      | (refine wpList_load_row rfl 113 (.tmp 10) rfl w2.heap.size rfl 113 cx (0, 0) _ Y3.out Tryd.underlying113 rfl (by rw [SZX.out]; kernel_rfl) ?_)
      | (go_at_call 51; go_loud (refine (ENC _).mono ?_; rintro r w4 ⟨u, rfl, hu, hw⟩; have D4 := Lib.hid (gr_tr D3.out hw); have X4 := Lib.hid (blk_below X3.out hw); clear hu hw))
      | (refine wpList_load_row rfl 113 (.tmp 8) rfl w.heap.size rfl 113 #[.int .u64 0, .int .u8 0, .int .u8 0, .int .u32 0] (0, 0) _ X4.out Tryd.underlying113 rfl (by kernel_rfl) ?_)
      | (refine wpList_store_row rfl 113 (.tmp 8) (.tmp 43) rfl w.heap.size #[.int .u64 0, .int .u8 0, .int .u8 0, .int .u32 0] rfl rfl 113 _ X4.out (by kernel_rfl) rfl (by simp [Value.oneCell']) ?_))
    obtain ⟨e1, e2⟩ : y = noZ ∧ e = 6 := by
      have h := HD.out
      unfold noOkB at h
      rw [HX.out, HO.out] at h
      simp at h
      exact ⟨h.1.symm, h.2.symm⟩
    rw [e1, e2, ZS.out]
    exact bodyPost_ret (results_row_tmp rfl _ _ w.heap.size 113 #[.int .u64 0, .int .u8 0, .int .u8 0, .int .u32 0] (0, 0) _ rfl (setRow_heap _ _ _ _ _ _ X4.out) Tryd.underlying113 rfl (by kernel_rfl)) rfl ⟨rfl, below_setRow D4.out (Nat.le_refl _) _⟩
  have ENC := fun w => EncNo_at x 0 (noB x) w (by unfold noE; rw [HO.out]; rfl) (by unfold noR; rw [HO.out]; rfl)
  rw [HCX.out] at ENC
  obtain ⟨bq, hbq⟩ : ∃ b, (noB x == l) = b := ⟨_, rfl⟩
  have HQ := Lib.hid hbq; clear hbq
  obtain ⟨NB, hNB⟩ : ∃ B, noB x = B := ⟨_, rfl⟩
  rw [hNB] at ENC
  have HNB := Lib.hid hNB
  clear hNB
  cases bq
  · have HQN := Lib.hid (show (NB == l) = false by rw [← HNB.out]; exact HQ.out)
    go_wp2_with (first
      | (refine wpList_load_row rfl 113 (.tmp 10) rfl w2.heap.size rfl 113 cx (0, 0) _ Y3.out Tryd.underlying113 rfl (by rw [SZX.out]; kernel_rfl) ?_)
      | (go_at_call 51; go_loud (refine (ENC _).mono ?_; rintro r w4 ⟨u, rfl, hu, hw⟩; have U := Lib.hid (BytesV.of_own hu); have B4 := Lib.hid (B3.out.below hw); have D4 := Lib.hid (gr_tr D3.out hw); have X4 := Lib.hid (blk_below X3.out hw); clear hu hw))
      | (go_at_call 128; go_loud (refine (eqB_at _ _ _ _ _ _ U.out B4.out HQN.out).mono ?_; rintro r w5 ⟨rfl, rfl⟩))
      | (refine wpList_load_row rfl 113 (.tmp 8) rfl w.heap.size rfl 113 #[.int .u64 0, .int .u8 0, .int .u8 0, .int .u32 0] (0, 0) _ X4.out Tryd.underlying113 rfl (by kernel_rfl) ?_)
      | (refine wpList_store_row rfl 113 (.tmp 8) (.tmp 43) rfl w.heap.size #[.int .u64 0, .int .u8 0, .int .u8 0, .int .u32 0] rfl rfl 113 _ X4.out (by kernel_rfl) rfl (by simp [Value.oneCell']) ?_))
    obtain ⟨e1, e2⟩ : y = noZ ∧ e = 6 := by
      have h := HD.out
      unfold noOkB at h
      rw [HX.out, HO.out, HQ.out] at h
      simp at h
      exact ⟨h.1.symm, h.2.symm⟩
    rw [e1, e2, ZS.out]
    exact bodyPost_ret (results_row_tmp rfl _ _ w.heap.size 113 #[.int .u64 0, .int .u8 0, .int .u8 0, .int .u32 0] (0, 0) _ rfl (setRow_heap _ _ _ _ _ _ X4.out) Tryd.underlying113 rfl (by kernel_rfl)) rfl ⟨rfl, below_setRow D4.out (Nat.le_refl _) _⟩
  · have HQN := Lib.hid (show (NB == l) = true by rw [← HNB.out]; exact HQ.out)
    go_wp2_with (first
      | (refine wpList_load_row rfl 113 (.tmp 10) rfl w2.heap.size rfl 113 cx (0, 0) _ Y3.out Tryd.underlying113 rfl (by rw [SZX.out]; kernel_rfl) ?_)
      | (go_at_call 51; go_loud (refine (ENC _).mono ?_; rintro r w4 ⟨u, rfl, hu, hw⟩; have U := Lib.hid (BytesV.of_own hu); have B4 := Lib.hid (B3.out.below hw); have D4 := Lib.hid (gr_tr D3.out hw); have X4 := Lib.hid (blk_below X3.out hw); have Y4 := Lib.hid (blk_below Y3.out hw); clear hu hw))
      | (go_at_call 128; go_loud (refine (eqB_at _ _ _ _ _ _ U.out B4.out HQN.out).mono ?_; rintro r w5 ⟨rfl, rfl⟩))
      | (refine wpList_load_row rfl 113 (.tmp 10) rfl w2.heap.size rfl 113 cx (0, 0) _ Y4.out Tryd.underlying113 rfl (by rw [SZX.out]; kernel_rfl) ?_)
      | (refine wpList_store_row rfl 113 (.tmp 8) (.tmp 44) rfl w.heap.size cx rfl rfl 113 _ X4.out (by rw [SZX.out]; kernel_rfl) (by rw [SZX.out]; rfl) ONX.out ?_))
    obtain ⟨e1, e2⟩ : y = x ∧ e = 0 := by
      have h := HD.out
      unfold noOkB at h
      rw [HX.out, HO.out, HQ.out] at h
      simp at h
      exact ⟨h.1.symm, h.2.symm⟩
    rw [e1, e2, HCX.out]
    exact bodyPost_ret (results_row_tmp rfl _ _ w.heap.size 113 cx (0, 0) _ rfl (setRow_heap _ _ _ _ _ _ X4.out) Tryd.underlying113 rfl (by rw [SZX.out]; kernel_rfl)) rfl ⟨rfl, below_setRow D4.out (Nat.le_refl _) _⟩
set_option maxHeartbeats 1600000 in
set_option maxRecDepth 20000 in
theorem Decode_No (l : List (BitVec 8)) (bv : Value) (w : World) (y : No) (e : Int) (hb : BytesV w bv l) (hl : l.length ≤ 140737488355328) (hd : decP 64 noRd noOkB noZ l = (y, e)) :
    Calls Tryd.prog 53 #[bv] w fun r w' => r = .returned (.tuple #[.agg (No.cells y).toArray, .int .i64 e]) ∧ Below w.heap.size w w' := by
  have BV := Lib.hid hb; have HL := Lib.hid hl; have HD := Lib.hid hd
  obtain ⟨V, hV⟩ : ∃ V, V = w.alloc (.cells #[.int .u64 0, .int .u8 0, .int .u8 0, .int .u32 0] 113) := ⟨_, rfl⟩
  have DV := Lib.hid (show Below w.heap.size w V by rw [hV]; exact gr_alloc w _)
  have XV := Lib.hid (show V.heap[w.heap.size]? = some (.cells #[.int .u64 0, .int .u8 0, .int .u8 0, .int .u32 0] 113 (0, 0)) by rw [hV]; exact heap_alloc_new w _)
  have HV := Lib.hid hV
  obtain ⟨cy, hcy⟩ : ∃ c, (No.cells y).toArray = c := ⟨_, rfl⟩
  have HCY := Lib.hid hcy
  have SZY := Lib.hid (show cy.size = 4 by rw [← hcy]; rfl)
  have ONY := Lib.hid (show cy.all (·.oneCell') = true by rw [← hcy]; simp [No.cells, Value.oneCell'])
  rw [hcy]
  clear hb hl hd hV hcy
  go_enter Tryd.func53, Tryd.ntmps53
  go_upto_region 1 with (fail)
  rw [← HV.out]
  go_wp2_with (first
    | (go_at_call 116; go_loud (refine (decoded_No l _ _ y e (BV.out.below DV.out) HL.out HD.out).mono ?_; rw [HCY.out]; rintro r w3 ⟨rfl, hw⟩; have D3 := Lib.hid (gr_tr DV.out hw); have X3 := Lib.hid (blk_below XV.out hw); clear hw))
    | (refine wpList_store_row rfl 113 (.tmp 2) (.tmp 6) rfl w.heap.size cy rfl rfl 113 _ X3.out (by rw [SZY.out]; kernel_rfl) (by rw [SZY.out]; rfl) ONY.out ?_))
  exact bodyPost_ret (results_row_tmp rfl _ _ w.heap.size 113 cy (0, 0) _ rfl (setRow_heap _ _ _ _ _ _ X3.out) Tryd.underlying113 rfl (by rw [SZY.out]; kernel_rfl)) rfl ⟨rfl, below_setRow D3.out (Nat.le_refl _) _⟩
end Go.Proofs.YthnnopjakpjoeaaDoor
